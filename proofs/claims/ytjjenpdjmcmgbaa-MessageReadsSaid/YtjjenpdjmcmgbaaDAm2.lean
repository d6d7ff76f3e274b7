/- The evaluator's literals, slices and appends, and that they answer as the machine does. No condition. The evaluator's slices: literals, cuts, appends, lengths. No condition. The evaluator's cuts, appends, lengths. No condition. The evaluator's append and make, and that they answer as the machine does. No condition. Values without names, and names that are changed. No condition. -/
import Derived.Test.YtjjenpdjmcmgbaaDAm1
namespace Go.Proofs.Ytjjenpdjmcmgbaa.Ab
open Go
set_option linter.unusedSimpArgs false
set_option linter.unusedVariables false
theorem splice_cons {α : Type} {l : List α} {i : Nat} {v : α} {r : List α} (h : i + (r.length + 1) ≤ l.length) : splice (l.set i v) (i + 1) r = splice l i (v :: r) := by
  apply List.ext_getElem?
  intro j
  rw [splice_get (by simp; omega), splice_get (by simpa using h)]
  simp only [List.length_cons]
  by_cases h1 : j < i
  · rw [if_pos (by omega), if_pos h1, List.getElem?_set_ne (by omega)]
  · rw [if_neg h1]
    by_cases h2 : j = i
    · subst h2
      rw [if_pos (by omega), if_pos (by omega), List.getElem?_set_self (by omega)]
      simp
    · by_cases h3 : j < i + (r.length + 1)
      · rw [if_neg (by omega), if_pos (by omega), if_pos h3, show j - i = (j - (i + 1)) + 1 by omega, List.getElem?_cons_succ]
      · rw [if_neg (by omega), if_neg (by omega), if_neg h3, List.getElem?_set_ne (by omega)]
theorem splice_nil {α : Type} (l : List α) (i : Nat) : splice l i [] = l := by simp [splice]
theorem fold_splice (off : Nat) : ∀ (vs : List Value) (k : Nat) (cells : Array Value), off + k + vs.length ≤ cells.size →
    ((vs.zipIdx k).foldl (fun (cs : Array Value) (x : Value × Nat) => cs.setIfInBounds (off + x.2) x.1) cells).toList = splice cells.toList (off + k) vs
  | [], k, cells, _ => by simp [splice_nil]
  | v :: r, k, cells, h => by
    simp only [List.zipIdx_cons, List.foldl_cons, List.length_cons] at h ⊢
    rw [fold_splice off r (k + 1) _ (by simp; omega), ← splice_cons (by simp; omega)]
    simp [Array.toList_setIfInBounds, Nat.add_assoc]
section
variable {P : Program} {N : Nat} {ρ : Pl} {I : Nat → Prop} {w : World} {m : Mem}
def fillV (place : Nat → Option (Nat × Nat)) (l : List V) : List (Nat × V) → Option (List V)
  | [] => some l
  | (i, v) :: rest => match place i with
    | none => none
    | some (off, size) =>
      bif Nat.beq (cellsOfV v).length size && cellsB v then
        if off + (cellsOfV v).length ≤ l.length then fillV place (splice l off (cellsOfV v)) rest else none
      else none
/-- Parts of a literal, each with its number. -/
def Rparts (N : Nat) (ρ : Pl) (I : Nat → Prop) (w : World) : List (Nat × V) → List (Nat × Value) → Prop
  | [], [] => True
  | (i, v) :: r, (j, x) :: s => i = j ∧ RV N ρ I w v x ∧ Rparts N ρ I w r s
  | _, _ => False
theorem fillV_sound {place : Nat → Option (Nat × Nat)} : ∀ {ps : List (Nat × V)} {qs : List (Nat × Value)} {l l' : List V} {c : Array Value}, Rparts N ρ I w ps qs → Rc N ρ I w l c 0 → l.length = c.size →
    fillV place l ps = some l' → ∃ c', Instr.fill place c qs = some c' ∧ Rc N ρ I w l' c' 0 ∧ l'.length = c'.size
  | [], [], l, l', c, _, h1, h2, h => by cases h; exact ⟨c, rfl, h1, h2⟩
  | [], _ :: _, _, _, _, hp, _, _, _ => by simp [Rparts] at hp
  | _ :: _, [], _, _, _, hp, _, _, _ => by simp [Rparts] at hp
  | (i, v) :: r, (j, x) :: s, l, l', c, hp, h1, h2, h => by
    simp only [Rparts] at hp
    obtain ⟨rfl, hv, hr⟩ := hp
    simp only [fillV] at h
    split at h
    · cases h
    · rename_i off size hpl
      cases hc : Nat.beq (cellsOfV v).length size && cellsB v with
      | false => rw [hc] at h; cases h
      | true =>
        rw [hc] at h
        simp only [cond_true] at h
        simp only [Bool.and_eq_true, Nat.beq_eq] at hc
        obtain ⟨k1, k2, k3⟩ := cellsOfV_sound hc.2 hv
        split at h
        · rename_i hb
          have hsz : (splice c.toList off x.cells.toList).length = c.size := by rw [splice_length (by simp; omega)]; simp
          have hf : x.cells.zipIdx.foldl (fun cs (y, j) => cs.setIfInBounds (off + j) y) c = (splice c.toList off x.cells.toList).toArray := by
            rw [← Array.foldl_toList, Array.toList_zipIdx]
            have := fold_splice off x.cells.toList 0 c (by simp; omega)
            apply Array.toList_inj.1
            simpa using this
          have := Rc.splice (off := off) h1 k1 k2 hb (by omega)
          rw [Nat.zero_add] at this
          obtain ⟨c', e1, e2, e3⟩ := fillV_sound hr this (by rw [splice_length hb, List.size_toArray, hsz, h2]) h
          refine ⟨c', ?_, e2, e3⟩
          simp only [Instr.fill, hpl]
          rw [if_neg (by rw [← k2, hc.1]; simp; omega)]
          rw [hf]
          exact e1
        · cases h
def placesT (P : Program) (fs : List Field) : Option (List (Nat × Nat)) := fs.mapM fun f => (P.info? f.type).map fun i => (f.offset, i.size)
theorem run_sizeOf' {t : TypeId} {i : TypeInfo} (h : P.info? t = some i) : (sizeOf t).run P w = .ok i.size w := by simp [sizeOf, typeInfo, h]
theorem run_places (fs : List Field) : ∀ l : List (Nat × Nat), placesT P fs = some l → (fs.mapM fun f => (do pure (f.offset, ← sizeOf f.type) : Sem (Nat × Nat))).run P w = .ok l w := by
  induction fs with
  | nil => intro l h; simp [placesT] at h; subst h; simp
  | cons f r ih =>
    intro l h
    simp only [placesT, List.mapM_cons, bind, Option.bind_eq_some_iff, Option.map_eq_some_iff, pure, Option.some.injEq] at h
    obtain ⟨p, ⟨i, h1, rfl⟩, ps, h2, rfl⟩ := h
    have := ih ps h2
    rw [List.mapM_cons]
    simp only [Sem.run_bind, run_sizeOf' h1, Result.andThen_ok, Sem.run_pure]
    rw [this]
    rfl
def buildV (P : Program) (t : TypeId) (ps : List (Nat × V)) : Option V :=
  match P.info? t with
  | none => none
  | some inf => match inf.zero with
    | none => none
    | some z => bif cellsB (constV z) then match P.underlying t with
      | some (.struct fs) => match placesT P fs.toList with
        | some pl => (fillV (fun i => pl[i]?) (cellsOfV (constV z)) ps).map .agg
        | none => none
      | some (.array _ e) => match P.info? e with
        | some ie => (fillV (fun i => some (i * ie.size, ie.size)) (cellsOfV (constV z)) ps).map .agg
        | none => none
      | _ => none
      else none
theorem buildV_sound {t : TypeId} {ps : List (Nat × V)} {qs : Array (Nat × Value)} {v : V} (hp : Rparts N ρ I w ps qs.toList) (h : buildV P t ps = some v) :
    ∃ x, (Instr.build t qs).run P w = .ok x w ∧ RV N ρ I w v x := by
  unfold buildV at h
  split at h
  · cases h
  · rename_i inf hi
    split at h
    · cases h
    · rename_i z hz
      cases hc : cellsB (constV z) with
      | false => rw [hc] at h; cases h
      | true =>
        rw [hc] at h
        simp only [cond_true] at h
        obtain ⟨k1, k2, _⟩ := cellsOfV_sound hc (RV_constV N ρ I w z)
        split at h
        · rename_i fs hu
          split at h
          · rename_i pl hpl
            rw [Option.map_eq_some_iff] at h
            obtain ⟨l, h1, rfl⟩ := h
            obtain ⟨c, e1, e2, e3⟩ := fillV_sound hp k1 k2 h1
            refine ⟨.agg c, ?_, by simp only [RV]; exact ⟨c, rfl, e3, e2⟩⟩
            have hm : (fs.mapM fun f => (do pure (f.offset, ← sizeOf f.type) : Sem (Nat × Nat))).run P w = .ok pl.toArray w := by
              rw [Array.mapM_eq_mapM_toList]
              simp only [Sem.run_map, run_places _ _ hpl, Result.andThen_ok]
            simp only [Instr.build, zeroValue, typeInfo, Sem.run_bind, run_program, Result.andThen_ok, hi, hz, Sem.run_pure, run_underlying hu, hm]
            have : (fun x : Nat => pl.toArray[x]?) = fun i : Nat => pl[i]? := by funext i; simp
            rw [this, e1]
            rfl
          · cases h
        · rename_i n e hu
          split at h
          · rename_i ie hie
            rw [Option.map_eq_some_iff] at h
            obtain ⟨l, h1, rfl⟩ := h
            obtain ⟨c, e1, e2, e3⟩ := fillV_sound hp k1 k2 h1
            refine ⟨.agg c, ?_, by simp only [RV]; exact ⟨c, rfl, e3, e2⟩⟩
            simp only [Instr.build, zeroValue, typeInfo, Sem.run_bind, run_program, Result.andThen_ok, hi, hz, Sem.run_pure, run_underlying hu, sizeOf, hie, e1]
          · cases h
        · cases h
end
end Go.Proofs.Ytjjenpdjmcmgbaa.Ab
namespace Go.Proofs.Ytjjenpdjmcmgbaa.Ab
open Go
set_option linter.unusedSimpArgs false
set_option linter.unusedVariables false
section
variable {P : Program} {N : Nat} {ρ : Pl} {I : Nat → Prop} {w : World} {m : Mem}
/-- The cells of a type's zero value, with the type's size and bytes. -/
def zeroE (P : Program) (e : TypeId) : Option (List V × Nat × Nat) :=
  match P.info? e with
  | some i => match i.zero with
    | some z => bif Nat.beq (cellsOfV (constV z)).length i.size && (cellsB (constV z) && !Nat.beq i.size 0) then some (cellsOfV (constV z), i.size, i.bytes) else none
    | none => none
  | none => none
theorem zeroE_sound {e : TypeId} {l : List V} {sz by_ : Nat} (h : zeroE P e = some (l, sz, by_)) (N : Nat) (ρ : Pl) (I : Nat → Prop) (w : World) :
    ∃ i z, P.info? e = some i ∧ i.zero = some z ∧ i.size = sz ∧ i.bytes = by_ ∧ 0 < sz ∧ Rc N ρ I w l z.cells 0 ∧ l.length = sz ∧ z.cells.size = sz := by
  unfold zeroE at h
  split at h
  · rename_i i hi
    split at h
    · rename_i z hz
      cases hc : Nat.beq (cellsOfV (constV z)).length i.size && (cellsB (constV z) && !Nat.beq i.size 0) with
      | false => rw [hc] at h; cases h
      | true =>
        rw [hc] at h
        simp only [cond_true, Option.some.injEq, Prod.mk.injEq] at h
        simp only [Bool.and_eq_true, Nat.beq_eq, Bool.not_eq_true'] at hc
        obtain ⟨rfl, rfl, rfl⟩ := h
        obtain ⟨k1, k2, _⟩ := cellsOfV_sound hc.2.1 (RV_constV N ρ I w z)
        have h0 : i.size ≠ 0 := fun e => by rw [e] at hc; simp at hc
        exact ⟨i, z, hi, hz, rfl, rfl, by omega, k1, hc.1, by omega⟩
    · cases h
  · cases h
theorem Rcc.set {es : List (List V)} {c x : Array Value} {o sz i : Nat} {cs : List V} (h : Rcc N ρ I w es c o sz) (hi : i < es.length) (hc : Rc N ρ I w cs x 0) (hs : cs.length = sz) (hx : x.size = sz)
    (hb : o + es.length * sz ≤ c.size) : Rcc N ρ I w (es.set i cs) (splice c.toList (o + i * sz) x.toList).toArray o sz := Rcc.mk fun j u hu => by
  have hmul : i * sz + sz ≤ es.length * sz := by
    have := Nat.mul_le_mul_right sz (show i + 1 ≤ es.length from hi)
    rw [Nat.add_mul] at this; omega
  by_cases hj : j = i
  · subst hj
    rw [List.getElem?_set_self hi] at hu
    cases hu
    refine ⟨hs, Rc.mk fun k v hv => ?_⟩
    have hk := (List.getElem?_eq_some_iff.1 hv).1
    obtain ⟨y, h1, h2⟩ := hc.get k v hv
    refine ⟨y, ?_, h2⟩
    rw [List.getElem?_toArray, splice_get (by simp; omega), if_neg (by omega), if_pos (by simp; omega), ← h1]
    simp
  · rw [List.getElem?_set_ne (fun h => hj h.symm)] at hu
    obtain ⟨u1, u2⟩ := h.get j u hu
    refine ⟨u1, Rc.splice_out u2 (by simp; omega) ?_⟩
    rcases Nat.lt_or_gt_of_ne hj with hlt | hgt
    · left
      have := Nat.mul_le_mul_right sz (show j + 1 ≤ i from hlt)
      rw [Nat.add_mul] at this; omega
    · right
      have := Nat.mul_le_mul_right sz (show i + 1 ≤ j from hgt)
      rw [Nat.add_mul] at this; simp; omega
def fillE (sz : Nat) (es : List (List V)) : List (Nat × V) → Option (List (List V))
  | [] => some es
  | (i, v) :: r => bif Nat.beq (cellsOfV v).length sz && cellsB v then
      (if i < es.length then fillE sz (es.set i (cellsOfV v)) r else none) else none
theorem fillE_sound {sz : Nat} : ∀ {ps : List (Nat × V)} {qs : List (Nat × Value)} {es es' : List (List V)} {c : Array Value}, Rparts N ρ I w ps qs → Rcc N ρ I w es c 0 sz → es.length * sz = c.size →
    fillE sz es ps = some es' → ∃ c', Instr.fill (fun i => some (i * sz, sz)) c qs = some c' ∧ Rcc N ρ I w es' c' 0 sz ∧ es'.length * sz = c'.size ∧ es'.length = es.length
  | [], [], es, es', c, _, h1, h2, h => by cases h; exact ⟨c, rfl, h1, h2, rfl⟩
  | [], _ :: _, _, _, _, hp, _, _, _ => by simp [Rparts] at hp
  | _ :: _, [], _, _, _, hp, _, _, _ => by simp [Rparts] at hp
  | (i, v) :: r, (j, x) :: s, es, es', c, hp, h1, h2, h => by
    simp only [Rparts] at hp
    obtain ⟨rfl, hv, hr⟩ := hp
    simp only [fillE] at h
    cases hc : Nat.beq (cellsOfV v).length sz && cellsB v with
    | false => rw [hc] at h; cases h
    | true =>
      rw [hc] at h
      simp only [cond_true] at h
      simp only [Bool.and_eq_true, Nat.beq_eq] at hc
      obtain ⟨k1, k2, k3⟩ := cellsOfV_sound hc.2 hv
      split at h
      · rename_i hi
        have hmul : i * sz + sz ≤ es.length * sz := by
          have := Nat.mul_le_mul_right sz (show i + 1 ≤ es.length from hi)
          rw [Nat.add_mul] at this; omega
        have hsz : (splice c.toList (i * sz) x.cells.toList).length = c.size := by rw [splice_length (by simp; omega)]; simp
        have hf : x.cells.zipIdx.foldl (fun cs (y, j) => cs.setIfInBounds (i * sz + j) y) c = (splice c.toList (i * sz) x.cells.toList).toArray := by
          rw [← Array.foldl_toList, Array.toList_zipIdx]
          have := fold_splice (i * sz) x.cells.toList 0 c (by simp; omega)
          apply Array.toList_inj.1
          simpa using this
        have := Rcc.set h1 hi k1 hc.1 (by omega) (by omega)
        rw [Nat.zero_add] at this
        obtain ⟨c', e1, e2, e3, e4⟩ := fillE_sound hr this (by rw [List.length_set, List.size_toArray, hsz, h2]) h
        refine ⟨c', ?_, e2, e3, by rw [e4, List.length_set]⟩
        simp only [Instr.fill]
        rw [if_neg (by rw [← k2, hc.1]; simp; omega), hf]
        exact e1
      · cases h
/-- A slice of the call's own that is put where it can't be written any more: it goes on by value. -/
def frz (m : Mem) : V → Option (V × Mem)
  | .sl sz n off len => match m[n]? with
    | some (.row _ sz' es) => bif Nat.beq sz sz' && Nat.ble (off + len) es.length then some (.isl sz ((es.drop off).take len), m.set n .dead) else none
    | _ => none
  | v => some (v, m)
def frzL (m : Mem) : List V → Option (List V × Mem)
  | [] => some ([], m)
  | v :: r => match frz m v with
    | some (v', m1) => match frzL m1 r with
      | some (r', m2) => some (v' :: r', m2)
      | none => none
    | none => none
def frzV (m : Mem) : V → Option (V × Mem)
  | .agg l => match frzL m l with
    | some (l', m') => some (.agg l', m')
    | none => none
  | v => frz m v
theorem frz_sound (hr : Rep ρ I m w) {v v' : V} {x : Value} {m' : Mem} (hv : RV m.length ρ I w v x) (h : frz m v = some (v', m')) :
    ∃ I', Rep ρ I' m' w ∧ Step ρ I m w ρ I' m' w ∧ RV m'.length ρ I' w v' x := by
  have triv : v' = v → m' = m → ∃ I', Rep ρ I' m' w ∧ Step ρ I m w ρ I' m' w ∧ RV m'.length ρ I' w v' x := by
    rintro rfl rfl
    exact ⟨I, hr, Step.refl _ _ _ _, hv⟩
  unfold frz at h
  split at h
  · rename_i sz n off len
    split at h
    · rename_i _ ty sz' es hm
      cases hc : Nat.beq sz sz' && Nat.ble (off + len) es.length with
      | false => rw [hc] at h; cases h
      | true =>
        rw [hc] at h
        simp only [cond_true, Option.some.injEq, Prod.mk.injEq] at h
        simp only [Bool.and_eq_true, Nat.beq_eq, Nat.ble_eq] at hc
        obtain ⟨rfl, hb⟩ := hc
        obtain ⟨rfl, rfl⟩ := h
        have hl := live_of hm rfl
        obtain ⟨k1, k2⟩ := hr.freeze hl
        refine ⟨_, k1, k2, ?_⟩
        have hlen : ((es.drop off).take len).length = len := by simp; omega
        obtain ⟨c, g1, g2, g3⟩ := hr.blk _ _ hm
        simp only [RV] at hv ⊢
        obtain ⟨h1, o, cap, rfl, h2, h3, c2, ty2, h4, h5⟩ := hv
        refine ⟨_, cap, by rw [hlen], by rw [hlen]; exact h2.1, ?_⟩
        rcases h3 with h3 | h3
        · left
          apply List.eq_nil_of_length_eq_zero
          omega
        · right
          refine ⟨_, o, c, ty, (0, 0), rfl, .inr rfl, g1, ?_, Uf.none _ _⟩
          refine Rcc.mk fun i e he => ?_
          rw [List.getElem?_take] at he
          split at he
          · rw [List.getElem?_drop] at he
            obtain ⟨e1, e2⟩ := g3.get _ e he
            refine ⟨e1, ?_⟩
            have := Rc.keep k2.keeps _ _ _ e2
            rwa [h3, Nat.add_assoc, ← Nat.add_mul]
          · cases he
    · cases h
  · cases h; exact triv rfl rfl
theorem frzL_sound : ∀ {l l' : List V} {c : Array Value} {o : Nat} {I : Nat → Prop} {m m' : Mem}, Rep ρ I m w → Rc m.length ρ I w l c o → frzL m l = some (l', m') →
    ∃ I', Rep ρ I' m' w ∧ Step ρ I m w ρ I' m' w ∧ Rc m'.length ρ I' w l' c o ∧ l'.length = l.length
  | [], l', c, o, I, m, m', hr, _, h => by cases h; exact ⟨I, hr, Step.refl _ _ _ _, by simp [Rc], rfl⟩
  | v :: r, l', c, o, I, m, m', hr, hl, h => by
    simp only [frzL] at h
    split at h
    · rename_i v' m1 h1
      split at h
      · rename_i r' m2 h2
        cases h
        simp only [Rc] at hl
        obtain ⟨⟨x, hx, ho, hv⟩, hrr⟩ := hl
        obtain ⟨I1, a1, a2, a3⟩ := frz_sound hr hv h1
        obtain ⟨I2, b1, b2, b3, b4⟩ := frzL_sound a1 (Rc.keep a2.keeps _ _ _ hrr) h2
        exact ⟨I2, b1, a2.trans b2, by simp only [Rc]; exact ⟨⟨x, hx, ho, RV.keep b2.keeps _ _ a3⟩, b3⟩, by simp [b4]⟩
      · cases h
    · cases h
theorem frzV_sound (hr : Rep ρ I m w) {v v' : V} {x : Value} {m' : Mem} (hv : RV m.length ρ I w v x) (h : frzV m v = some (v', m')) :
    ∃ I', Rep ρ I' m' w ∧ Step ρ I m w ρ I' m' w ∧ RV m'.length ρ I' w v' x := by
  unfold frzV at h
  split at h
  · split at h
    · rename_i l l' m1 h1
      cases h
      simp only [RV] at hv
      obtain ⟨c, rfl, h2, h3⟩ := hv
      obtain ⟨I', a1, a2, a3, a4⟩ := frzL_sound hr h3 h1
      exact ⟨I', a1, a2, by simp only [RV]; exact ⟨c, rfl, by omega, a3⟩⟩
    · cases h
  · exact frz_sound hr hv h
def frzP (m : Mem) : List (Nat × V) → Option (List (Nat × V) × Mem)
  | [] => some ([], m)
  | (i, v) :: r => match frzV m v with
    | some (v', m1) => match frzP m1 r with
      | some (r', m2) => some ((i, v') :: r', m2)
      | none => none
    | none => none
theorem Rparts.keep {N' : Nat} {ρ' : Pl} {I' : Nat → Prop} {w' : World} (hk : Keeps N ρ I w N' ρ' I' w') : ∀ {ps : List (Nat × V)} {qs : List (Nat × Value)}, Rparts N ρ I w ps qs → Rparts N' ρ' I' w' ps qs
  | [], [], _ => by simp [Rparts]
  | [], _ :: _, h => by simp [Rparts] at h
  | _ :: _, [], h => by simp [Rparts] at h
  | (i, v) :: r, (j, x) :: s, h => by
    simp only [Rparts] at h ⊢
    exact ⟨h.1, RV.keep hk _ _ h.2.1, Rparts.keep hk h.2.2⟩
theorem frzP_sound : ∀ {ps ps' : List (Nat × V)} {qs : List (Nat × Value)} {I : Nat → Prop} {m m' : Mem}, Rep ρ I m w → Rparts m.length ρ I w ps qs → frzP m ps = some (ps', m') →
    ∃ I', Rep ρ I' m' w ∧ Step ρ I m w ρ I' m' w ∧ Rparts m'.length ρ I' w ps' qs
  | [], ps', [], I, m, m', hr, _, h => by cases h; exact ⟨I, hr, Step.refl _ _ _ _, by simp [Rparts]⟩
  | [], _, _ :: _, _, _, _, _, hp, _ => by simp [Rparts] at hp
  | _ :: _, _, [], _, _, _, _, hp, _ => by simp [Rparts] at hp
  | (i, v) :: r, ps', (j, x) :: s, I, m, m', hr, hp, h => by
    simp only [frzP] at h
    split at h
    · rename_i v' m1 h1
      split at h
      · rename_i r' m2 h2
        cases h
        simp only [Rparts] at hp
        obtain ⟨hij, hv, hrr⟩ := hp
        obtain ⟨I1, a1, a2, a3⟩ := frzV_sound hr hv h1
        obtain ⟨I2, b1, b2, b3⟩ := frzP_sound a1 (Rparts.keep a2.keeps hrr) h2
        exact ⟨I2, b1, a2.trans b2, by simp only [Rparts]; exact ⟨hij, RV.keep b2.keeps _ _ a3, b3⟩⟩
      · cases h
    · cases h
/-- Rows of small numbers stay where they are. -/
def keepNames (P : Program) (e : TypeId) : Bool := match P.underlying e with
  | some (.slice f) => match P.underlying f with
    | some (.int .u16) => true
    | _ => false
  | _ => false
def frzQ (P : Program) (e : TypeId) (m : Mem) (ps : List (Nat × V)) : Option (List (Nat × V) × Mem) := match frzP m ps with
  | some q => some (bif keepNames P e then (ps, m) else q)
  | none => none
theorem frzQ_sound {P : Program} {e : TypeId} {ps ps' : List (Nat × V)} {qs : List (Nat × Value)} {I : Nat → Prop} {m m' : Mem} (hr : Rep ρ I m w) (hp : Rparts m.length ρ I w ps qs) (h : frzQ P e m ps = some (ps', m')) :
    ∃ I', Rep ρ I' m' w ∧ Step ρ I m w ρ I' m' w ∧ Rparts m'.length ρ I' w ps' qs := by
  unfold frzQ at h
  split at h
  · rename_i q hq
    cases hk : keepNames P e with
    | true =>
      rw [hk] at h
      cases h
      exact ⟨I, hr, Step.refl _ _ _ _, hp⟩
    | false =>
      rw [hk] at h
      cases h
      exact frzP_sound hr hp hq
  · cases h
def bsliceV (P : Program) (t : TypeId) (len : Nat) (ps : List (Nat × V)) (m : Mem) : Option (V × Mem) :=
  match P.underlying t with
  | some (.slice e) => match zeroE P e with
    | some (z, sz, _) => bif Nat.ble (len * sz) 16777216 then match frzQ P e m ps with
        | some (ps', m1) => match fillE sz (List.replicate len z) ps' with
          | some es => some (.sl sz m1.length 0 len, m1 ++ [.row e sz es])
          | none => none
        | none => none
      else none
    | none => none
  | _ => none
theorem bsliceV_sound (hr : Rep ρ I m w) {t : TypeId} {len : Nat} {ps : List (Nat × V)} {qs : Array (Nat × Value)} {v : V} {m' : Mem} (hp : Rparts m.length ρ I w ps qs.toList)
    (h : bsliceV P t len ps m = some (v, m')) : Came P ρ I m w (Instr.buildSlice t len qs) v m' := by
  unfold bsliceV at h
  split at h
  · rename_i e hu
    split at h
    · rename_i z sz by_ hz
      cases hc : Nat.ble (len * sz) 16777216 with
      | false => rw [hc] at h; cases h
      | true =>
        rw [hc] at h
        simp only [cond_true] at h
        rw [Nat.ble_eq] at hc
        split at h
        · rename_i ps' m1 h1
          split at h
          · rename_i es h2
            cases h
            obtain ⟨I1, a1, a2, a3⟩ := frzQ_sound hr hp h1
            obtain ⟨i, zv, z1, z2, z3, z4, z5, z6, z7, z8⟩ := zeroE_sound hz m1.length ρ I1 w
            have hrow : Rcc m1.length ρ I1 w (List.replicate len z) ((Array.range (len * sz)).map (zv.cells[· % zv.cells.size]!)) 0 sz := Rcc.mk fun k u hu => by
              rw [List.getElem?_replicate] at hu
              split at hu
              · rename_i hk
                cases hu
                refine ⟨z7, Rc.mk fun j y hy => ?_⟩
                have hj := (List.getElem?_eq_some_iff.1 hy).1
                obtain ⟨q, q1, q2⟩ := z6.get j y hy
                refine ⟨q, ?_, q2⟩
                have hlt : 0 + k * sz + j < len * sz := by
                  have := Nat.mul_le_mul_right sz (show k + 1 ≤ len from hk)
                  rw [Nat.add_mul] at this; omega
                rw [Array.getElem?_map, Array.getElem?_range, if_pos hlt]
                simp only [Option.map_some, z8, Nat.zero_add] at q1 ⊢
                rw [Nat.mul_comm, Nat.mul_add_mod, Nat.mod_eq_of_lt (by omega)]
                congr 1
                rw [getElem!_def, q1]
              · cases hu
            obtain ⟨c', e1, e2, e3, e4⟩ := fillE_sound a3 hrow (by simp) h2
            obtain ⟨k1, k2⟩ := a1.alloc (.cells c' e) (.row e sz es) (fun hk => ⟨c', heap_alloc_new w _, by simp; omega, Rcc.keep hk _ _ _ _ e2⟩)
            have hz0 : len * sz = 0 → (Array.range (len * sz)).map ((#[] : Array Value)[· % (#[] : Array Value).size]!) = (Array.range (len * sz)).map (zv.cells[· % zv.cells.size]!) := by
              intro e; rw [e]; apply Array.ext <;> simp
            refine ⟨.slice (some ⟨w.heap.size, 0, none⟩) len len, w.alloc (.cells c' e), _, _, ?_, k1, a2.trans k2, ?_⟩
            · have hle : ¬ (len * sz > 2 ^ 24) := by have : (2:Nat) ^ 24 = 16777216 := by decide
                                                     omega
              by_cases h0 : len * sz = 0
              · simp only [Instr.buildSlice, Sem.run_bind, run_underlying hu, Result.andThen_ok, run_sizeOf' z1, z3, if_neg hle, Sem.run_pure, if_pos h0]
                have hz0' := hz0 h0
                simp only [Pure.pure] at *
                rw [hz0', e1]
                rfl
              · simp only [Instr.buildSlice, Sem.run_bind, run_underlying hu, Result.andThen_ok, run_sizeOf' z1, z3, if_neg hle, Sem.run_pure, if_neg h0, zeroValue, typeInfo, run_program, z1, z2]
                rw [e1]
                rfl
            · simp only [RV]
              have hes : es.length = len := by rw [e4]; simp
              refine ⟨by simp, 0, len, by rw [Pl.put_self], ⟨Nat.le_refl _, by have := Nat.le_mul_of_pos_right len z5; omega⟩, .inr (by rw [Pl.put_self]; simp), c', e, by rw [Pl.put_self]; exact heap_alloc_new w _, .inr ?_⟩
              rw [← hes, Nat.zero_add]; exact Nat.le_of_eq e3
          · cases h
        · cases h
    · cases h
  · cases h
end
end Go.Proofs.Ytjjenpdjmcmgbaa.Ab
namespace Go.Proofs.Ytjjenpdjmcmgbaa.Ab
open Go
set_option linter.unusedSimpArgs false
set_option linter.unusedVariables false
section
variable {P : Program} {N : Nat} {ρ : Pl} {I : Nat → Prop} {w : World} {m : Mem}
/-- A bound of a cut: given or not. -/
def bndV (d : Nat) : Option V → Option Int
  | none => some d
  | some (.int _ i) => some i
  | some _ => none
def Rbnd (N : Nat) (ρ : Pl) (I : Nat → Prop) (w : World) : Option V → Option Value → Prop
  | none, none => True
  | some v, some x => RV N ρ I w v x
  | _, _ => False
def sliceV (P : Program) (t : TypeId) (x : V) (lo hi : Option V) : Option V :=
  match x with
  | .sl sz n off len => match P.underlying t with
    | some (.slice e) => match P.info? e with
      | some i => bif Nat.beq sz i.size then (match bndV 0 lo, bndV len hi with
          | some l, some h => if 0 ≤ l ∧ l ≤ h ∧ h ≤ len then some (.sl sz n (off + l.toNat) (h.toNat - l.toNat)) else none
          | _, _ => none) else none
      | none => none
    | _ => none
  | .isl sz es => match P.underlying t with
    | some (.slice e) => match P.info? e with
      | some i => bif Nat.beq sz i.size then (match bndV 0 lo, bndV es.length hi with
          | some l, some h => if 0 ≤ l ∧ l ≤ h ∧ h ≤ es.length then some (.isl sz ((es.drop l.toNat).take (h.toNat - l.toNat))) else none
          | _, _ => none) else none
      | none => none
    | _ => none
  | .nils => match P.underlying t with
    | some (.slice e) => match P.info? e with
      | some _ => (match bndV 0 lo, bndV 0 hi with
          | some l, some h => if 0 = l ∧ 0 = h then some .nils else none
          | _, _ => none)
      | none => none
    | _ => none
  | .str s => match P.underlying t with
    | some .string => (match bndV 0 lo, bndV s.size hi with
          | some l, some h => if 0 ≤ l ∧ l ≤ h ∧ h ≤ s.size then some (.str (s.extract l.toNat h.toNat)) else none
          | _, _ => none)
    | _ => none
  | _ => none
theorem run_bounds {lo hi : Option V} {a b : Option Value} {len cap : Nat} {l h : Int} (isS : Bool) (ha : Rbnd N ρ I w lo a) (hb : Rbnd N ρ I w hi b) (h1 : bndV 0 lo = some l) (h2 : bndV len hi = some h)
    (h0 : 0 ≤ l) (hlh : l ≤ h) (hl : h ≤ len) (hc : len ≤ cap) : (Instr.sliceBounds isS len cap a b none).run P w = .ok (l.toNat, h.toNat, cap) w := by
  have ra : ∀ y, (l : Int) ≤ (y : Nat) → ∀ cd, (match a with | some v => Instr.sliceBound v y cd | none => pure 0 : Sem Nat).run P w = .ok l.toNat w := by
    intro y hy cd
    cases lo with
    | none =>
      cases a with
      | none => simp only [bndV, Option.some.injEq] at h1; subst h1; rfl
      | some _ => simp [Rbnd] at ha
    | some v =>
      cases a with
      | none => simp [Rbnd] at ha
      | some x =>
        simp only [Rbnd] at ha
        cases v <;> simp [bndV] at h1
        subst h1
        simp only [RV] at ha
        subst ha
        simp [Instr.sliceBound, asIntOf, h0, hy]
  have rb : ∀ cd, (match b with | some v => Instr.sliceBound v cap cd | none => pure len : Sem Nat).run P w = .ok h.toNat w := by
    intro cd
    cases hi with
    | none =>
      cases b with
      | none => simp only [bndV, Option.some.injEq] at h2; subst h2; simp
      | some _ => simp [Rbnd] at hb
    | some v =>
      cases b with
      | none => simp [Rbnd] at hb
      | some x =>
        simp only [Rbnd] at hb
        cases v <;> simp [bndV] at h2
        subst h2
        simp only [RV] at hb
        subst hb
        rename_i q
        have : (0 : Int) ≤ q ∧ q ≤ cap := by omega
        simp [Instr.sliceBound, asIntOf, this]
  have ra' := ra h.toNat (by omega) .sliceB
  have rb' := rb (if isS then .sliceAcap else .sliceAlen)
  unfold Instr.sliceBounds
  cases b <;> cases a <;> simp_all
theorem sliceV_sound {t : TypeId} {x v : V} {lo hi : Option V} {y : Value} {a b : Option Value} (hx : RV N ρ I w x y) (ha : Rbnd N ρ I w lo a) (hb : Rbnd N ρ I w hi b) (h : sliceV P t x lo hi = some v) :
    ∃ z, (Instr.sliceAt t y a b none).run P w = .ok z w ∧ RV N ρ I w v z := by
  unfold sliceV at h
  split at h
  · rename_i sz n off len
    split at h
    · rename_i e hu
      split at h
      · rename_i i hi'
        cases hs : Nat.beq sz i.size with
        | false => rw [hs] at h; cases h
        | true =>
          rw [hs] at h
          have hs' := Nat.eq_of_beq_eq_true hs
          simp only [cond_true] at h
          split at h
          · rename_i l hh h1 h2
            split at h
            · rename_i hb3
              cases h
              simp only [RV] at hx ⊢
              obtain ⟨g1, o, cap, rfl, g2, g3, c, ty, g4, g5⟩ := hx
              have hr := run_bounds (P := P) true ha hb h1 h2 hb3.1 hb3.2.1 hb3.2.2 g2.1
              refine ⟨_, by simp [Instr.sliceAt, run_underlying hu, Instr.slice, hr, run_sizeOf' hi']; rfl, g1, ?_⟩
              by_cases hcl : cap = l.toNat
              · refine ⟨o, 0, ?_, by omega, .inl rfl, c, ty, g4, .inl rfl⟩
                rw [if_pos hcl, hcl, Nat.sub_self]
              · refine ⟨o + l.toNat * sz, cap - l.toNat, ?_, by omega, .inr ?_, c, ty, g4, .inr ?_⟩
                · rw [if_neg hcl, ← hs']; simp [Addr.add_lit]
                · rcases g3 with g3 | g3
                  · omega
                  · rw [g3, Nat.add_mul, Nat.add_assoc]
                · rcases g5 with g5 | g5
                  · omega
                  · have : l.toNat * sz + (cap - l.toNat) * sz = cap * sz := by rw [← Nat.add_mul]; congr 1; omega
                    omega
            · cases h
          · cases h
      · cases h
    · cases h
  · rename_i sz es
    split at h
    · rename_i e hu
      split at h
      · rename_i i hi'
        cases hs : Nat.beq sz i.size with
        | false => rw [hs] at h; cases h
        | true =>
          rw [hs] at h
          have hs' := Nat.eq_of_beq_eq_true hs
          simp only [cond_true] at h
          split at h
          · rename_i l hh h1 h2
            split at h
            · rename_i hb3
              cases h
              simp only [RV] at hx ⊢
              obtain ⟨ad, cap, rfl, g2, g3⟩ := hx
              have hr := run_bounds (P := P) true ha hb h1 h2 hb3.1 hb3.2.1 hb3.2.2 g2
              have hlen : ((es.drop l.toNat).take (hh.toNat - l.toNat)).length = hh.toNat - l.toNat := by simp; omega
              refine ⟨_, by simp [Instr.sliceAt, run_underlying hu, Instr.slice, hr, run_sizeOf' hi']; rfl, ?_⟩
              refine ⟨_, _, by rw [hlen], by rw [hlen]; omega, ?_⟩
              rcases g3 with rfl | ⟨b', o, c, ty, fr, rfl, k1, k2, k3⟩
              · left; simp
              · by_cases hcl : cap = l.toNat
                · left
                  apply List.eq_nil_of_length_eq_zero
                  omega
                · right
                  refine ⟨b', o + l.toNat * sz, c, ty, fr, by rw [if_neg hcl, ← hs']; simp [Addr.add_lit], k1, k2, Rcc.mk fun j u hu => ?_, k3.2.part (by omega) (.inr (by
                    have e3 := Nat.mul_le_mul_right sz (show l.toNat + (hh.toNat - l.toNat) ≤ es.length by omega)
                    rw [Nat.add_mul] at e3
                    rw [hlen]
                    try rw [hs'] at e3
                    try rw [hs']
                    omega))⟩
                  rw [List.getElem?_take] at hu
                  split at hu
                  · rw [List.getElem?_drop] at hu
                    obtain ⟨u1, u2⟩ := k3.1.get _ u hu
                    exact ⟨u1, by rwa [Nat.add_mul, ← Nat.add_assoc] at u2⟩
                  · cases hu
            · cases h
          · cases h
      · cases h
    · cases h
  · split at h
    · rename_i e hu
      split at h
      · rename_i i hi'
        split at h
        · rename_i l hh h1 h2
          split at h
          · rename_i hb3
            cases h
            simp only [RV] at hx ⊢
            subst hx
            obtain ⟨rfl, rfl⟩ := hb3
            have hr := run_bounds (P := P) (cap := 0) true ha hb h1 h2 (by simp) (by simp) (by simp) (by simp)
            exact ⟨_, by simp [Instr.sliceAt, run_underlying hu, Instr.slice, hr, run_sizeOf' hi'], rfl⟩
          · cases h
        · cases h
      · cases h
    · cases h
  · split at h
    · rename_i hu
      split at h
      · rename_i l hh h1 h2
        split at h
        · rename_i hb3
          cases h
          simp only [RV] at hx ⊢
          subst hx
          have hr := run_bounds (P := P) false ha hb h1 h2 hb3.1 hb3.2.1 hb3.2.2 (Nat.le_refl _)
          exact ⟨_, by simp [Instr.sliceAt, run_underlying hu, Instr.slice, hr], rfl⟩
        · cases h
      · cases h
    · cases h
  · cases h
/-- What a slice holds. -/
def contV (m : Mem) (sz : Nat) : V → Option (List (List V))
  | .nils => some []
  | .isl sz' es => bif Nat.beq sz sz' then some es else none
  | .sl sz' n off len => match m[n]? with
    | some (.row _ sz'' es) => bif Nat.beq sz sz' && (Nat.beq sz sz'' && Nat.ble (off + len) es.length) then some ((es.drop off).take len) else none
    | _ => none
  | _ => none
/-- A slice's cells, as an append reads them. -/
structure Cont (P : Program) (N : Nat) (ρ : Pl) (I : Nat → Prop) (w : World) (sz : Nat) (x : Value) (es : List (List V)) (news : List Value) : Prop where
  isS : ∃ a cap, x = .slice a es.length cap
  len : (Builtin.lenOf x).run P w = .ok es.length w
  first : ∀ w', Same w w' → (Builtin.firstCells sz es.length x).run P w' = .ok news.toArray w'
  size : news.length = es.length * sz
  rel : Rcc N ρ I w es news.toArray 0 sz
  one : ∀ v ∈ es, v.all oneV = true → True
theorem cells_of_region {b o sz : Nat} {c : Array Value} {ty : TypeId} {fr : Nat × Nat} {es : List (List V)} (hg : w.heap[b]? = some (.cells c ty fr)) (hr : Rcc N ρ I w es c o sz) (hb : es = [] ∨ o + es.length * sz ≤ c.size) :
    ∃ news : List Value, news = (c.toList.drop o).take (es.length * sz) ∧ news.length = es.length * sz ∧ Rcc N ρ I w es news.toArray 0 sz ∧ ∀ w', Same w w' → (loadCells ⟨b, o, none⟩ (es.length * sz)).run P w' = .ok news.toArray w' := by
  refine ⟨_, rfl, ?_, ?_, ?_⟩
  · rcases hb with rfl | hb
    · simp
    · simp; omega
  · refine Rcc.mk fun i e he => ?_
    obtain ⟨h1, h2⟩ := hr.get i e he
    have hi := (List.getElem?_eq_some_iff.1 he).1
    refine ⟨h1, Rc.mk fun j v hv => ?_⟩
    have hj := (List.getElem?_eq_some_iff.1 hv).1
    obtain ⟨x, k1, k2⟩ := h2.get j v hv
    refine ⟨x, ?_, k2⟩
    have := Nat.mul_le_mul_right sz (show i + 1 ≤ es.length from hi)
    rw [Nat.add_mul] at this
    rw [List.getElem?_toArray, List.getElem?_take, if_pos (by omega), List.getElem?_drop, ← k1]
    simp; congr 1; omega
  · intro w' hs
    have hlen : ((c.toList.drop o).take (es.length * sz)).length = es.length * sz := by
      rcases hb with rfl | hb
      · simp
      · simp; omega
    have := run_loadCells_list (P := P) w' ⟨b, o, none⟩ ((c.toList.drop o).take (es.length * sz)) (fun j u hu => by
      rw [Addr.add_lit, cell_of_row w' b _ c ty fr (by rw [hs.heap]; exact hg)]
      rw [List.getElem?_take] at hu
      split at hu
      · rw [List.getElem?_drop] at hu; simpa using hu
      · cases hu)
    rwa [hlen] at this
theorem contV_sound (hr : Rep ρ I m w) {sz : Nat} {v : V} {x : Value} {es : List (List V)} (hsz : 0 < sz) (hv : RV m.length ρ I w v x) (h : contV m sz v = some es) : ∃ news, Cont P m.length ρ I w sz x es news := by
  unfold contV at h
  split at h
  · cases h
    simp only [RV] at hv
    subst hv
    exact ⟨[], ⟨⟨none, 0, rfl⟩, rfl, fun w' _ => rfl, by simp, by simp [Rcc], fun _ _ _ => trivial⟩⟩
  · rename_i sz' es'
    cases hs : Nat.beq sz sz' with
    | false => rw [hs] at h; cases h
    | true =>
      rw [hs] at h
      have hs' := Nat.eq_of_beq_eq_true hs
      subst hs'
      simp only [cond_true, Option.some.injEq] at h
      subst h
      simp only [RV] at hv
      obtain ⟨a, cap, rfl, h2, h3⟩ := hv
      rcases h3 with rfl | ⟨b, o, c, ty, fr, rfl, h4, h5, h6, _⟩
      · refine ⟨[], ⟨⟨a, cap, rfl⟩, rfl, fun w' _ => ?_, by simp, by simp [Rcc], fun _ _ _ => trivial⟩⟩
        cases a <;> simp [Builtin.firstCells, loadCells, loadCellsFrom]
      · have hb : es' = [] ∨ o + es'.length * sz ≤ c.size := by
          by_cases h0 : es' = []
          · exact .inl h0
          · right
            have hlt : es'.length - 1 < es'.length := by
              have : 0 < es'.length := List.length_pos_iff.2 h0
              omega
            obtain ⟨q1, q2⟩ := h6.get (es'.length - 1) _ (List.getElem?_eq_getElem hlt)
            rcases q2.bound with hq | hq
            · rw [hq] at q1; simp at q1; omega
            · rw [q1] at hq
              have : (es'.length - 1) * sz + sz = es'.length * sz := by
                rw [Nat.sub_mul, Nat.one_mul]
                have := Nat.mul_le_mul_right sz (show 1 ≤ es'.length by omega)
                omega
              omega
        obtain ⟨news, _, n1, n2, n3⟩ := cells_of_region (P := P) h5 h6 hb
        exact ⟨news, ⟨⟨_, cap, rfl⟩, rfl, fun w' hs => by simpa [Builtin.firstCells] using n3 w' hs, n1, n2, fun _ _ _ => trivial⟩⟩
  · rename_i sz' n off len
    split at h
    · rename_i _ ty sz'' es' hm
      cases hc : Nat.beq sz sz' && (Nat.beq sz sz'' && Nat.ble (off + len) es'.length) with
      | false => rw [hc] at h; cases h
      | true =>
        rw [hc] at h
        simp only [cond_true, Option.some.injEq] at h
        simp only [Bool.and_eq_true, Nat.beq_eq, Nat.ble_eq] at hc
        obtain ⟨rfl, rfl, hb⟩ := hc
        subst h
        obtain ⟨c, g1, g2, g3⟩ := hr.blk _ _ hm
        simp only [RV] at hv
        obtain ⟨h1, o, cap, rfl, h2, h3, c2, ty2, h4, h5⟩ := hv
        have hlen : ((es'.drop off).take len).length = len := by simp; omega
        rcases h3 with h3 | h3
        · have hl0 : len = 0 := by omega
          subst hl0
          refine ⟨[], ⟨⟨_, cap, rfl⟩, by simp [Builtin.lenOf], fun w' _ => ?_, by simp, by simp [Rcc], fun _ _ _ => trivial⟩⟩
          simp [Builtin.firstCells, loadCells, loadCellsFrom]
        · have hsub : Rcc m.length ρ I w ((es'.drop off).take len) c o sz := Rcc.mk fun j u hu => by
            rw [List.getElem?_take] at hu
            split at hu
            · rw [List.getElem?_drop] at hu
              obtain ⟨u1, u2⟩ := g3.get _ u hu
              refine ⟨u1, ?_⟩
              rwa [h3, Nat.add_assoc, ← Nat.add_mul]
            · cases hu
          have hbd : (ρ n).2 + off * sz + len * sz ≤ c.size := by
            have := Nat.mul_le_mul_right sz hb
            rw [Nat.add_mul] at this; omega
          obtain ⟨news, _, n1, n2, n3⟩ := cells_of_region (P := P) g1 hsub (.inr (by rw [hlen, h3]; exact hbd))
          refine ⟨news, ⟨⟨_, cap, by rw [hlen]⟩, by simp only [Builtin.lenOf, hlen]; rfl, fun w' hs => ?_, n1, n2, fun _ _ _ => trivial⟩⟩
          have := n3 w' hs
          simpa [Builtin.firstCells] using this
    · cases h
  · cases h
def lenV (P : Program) (m : Mem) (t : TypeId) : V → Option V
  | .nils => match P.underlying t with | some (.slice _) => some (.int .i64 0) | _ => none
  | .sl _ _ _ len => match P.underlying t with | some (.slice _) => some (.int .i64 len) | _ => none
  | .isl _ es => match P.underlying t with | some (.slice _) => some (.int .i64 es.length) | _ => none
  | .str s => match P.underlying t with | some .string => some (.int .i64 s.size) | _ => none
  | .nilm => match P.underlying t with | some (.map _ _) => some (.int .i64 0) | _ => none
  | .mp n => match P.underlying t with
    | some (.map _ _) => match m[n]? with
      | some (.map es _ _) => some (.int .i64 es.length)
      | _ => none
    | _ => none
  | _ => none
theorem Re.length : ∀ {l : List (V × V)} {es : List MapEntry}, Re N ρ I w l es → l.length = es.length
  | [], [], _ => rfl
  | [], _ :: _, h => by simp [Re] at h
  | _ :: _, [], h => by simp [Re] at h
  | (_, _) :: r, _ :: s, h => by simp only [Re] at h; simp [Re.length h.2.2]
theorem lenV_sound (hr : Rep ρ I m w) {t : TypeId} {x v : V} {y : Value} (hx : RV m.length ρ I w x y) (h : lenV P m t x = some v) (ts : Array TypeId) (ht : ts[0]? = some t) (ty : TypeId) (xs : Array Value) (hxs : xs[0]? = some y) :
    ∃ z, (Builtin.len_ ts ty xs).run P w = .ok z w ∧ RV m.length ρ I w v z := by
  unfold lenV at h
  split at h
  · split at h <;> cases h
    rename_i e hu
    simp only [RV] at hx; subst hx
    exact ⟨_, by simp [Builtin.len_, ht, hxs, run_underlying hu, goInt], rfl⟩
  · split at h <;> cases h
    rename_i e hu
    simp only [RV] at hx
    obtain ⟨_, _, _, rfl, _⟩ := hx
    exact ⟨_, by simp [Builtin.len_, ht, hxs, run_underlying hu, goInt], rfl⟩
  · split at h <;> cases h
    rename_i e hu
    simp only [RV] at hx
    obtain ⟨_, _, rfl, _⟩ := hx
    exact ⟨_, by simp [Builtin.len_, ht, hxs, run_underlying hu, goInt], rfl⟩
  · split at h <;> cases h
    rename_i hu
    simp only [RV] at hx; subst hx
    exact ⟨_, by simp [Builtin.len_, ht, hxs, run_underlying hu, goInt], rfl⟩
  · split at h <;> cases h
    rename_i e hu
    simp only [RV] at hx; subst hx
    exact ⟨_, by simp [Builtin.len_, ht, hxs, run_underlying hu, goInt], rfl⟩
  · split at h
    · rename_i k e hu
      split at h
      · rename_i _ es bs clk hm
        cases h
        simp only [RV] at hx
        obtain ⟨_, rfl⟩ := hx
        obtain ⟨_, ents, g1, g2, _⟩ := hr.blk _ _ hm
        refine ⟨.int .i64 es.length, ?_, rfl⟩
        have hl := g2.length
        simp only [Array.length_toList] at hl
        simp [Builtin.len_, ht, hxs, run_underlying hu, goInt, getObj, Sem.run, g1, hl]
      · cases h
    · cases h
  · cases h
def capV (P : Program) (t : TypeId) : V → Option V
  | .nils => match P.underlying t with | some (.slice _) => some (.int .i64 0) | _ => none
  | _ => none
theorem capV_sound {t : TypeId} {x v : V} {y : Value} (hx : RV m.length ρ I w x y) (h : capV P t x = some v) (ts : Array TypeId) (ht : ts[0]? = some t) (ty : TypeId) (xs : Array Value) (hxs : xs[0]? = some y) :
    ∃ z, (Builtin.cap_ ts ty xs).run P w = .ok z w ∧ RV m.length ρ I w v z := by
  unfold capV at h
  split at h
  · split at h <;> cases h
    rename_i e hu
    simp only [RV] at hx; subst hx
    exact ⟨_, by simp [Builtin.cap_, ht, hxs, run_underlying hu, goInt], rfl⟩
  · cases h
end
end Go.Proofs.Ytjjenpdjmcmgbaa.Ab
namespace Go.Proofs.Ytjjenpdjmcmgbaa.Ab
open Go
set_option linter.unusedSimpArgs false
set_option linter.unusedVariables false
section
variable {P : Program} {N : Nat} {ρ : Pl} {I : Nat → Prop} {w : World} {m : Mem}
def isSliceT (P : Program) (t : TypeId) : Bool := match P.underlying t with
  | some (.slice _) => true
  | _ => false
/-- 'append(s, x...)'. -/
def appendV (P : Program) (t u : TypeId) (s x : V) (m : Mem) : Option (V × Mem) :=
  match P.underlying t with
  | some (.slice e) => match zeroE P e with
    | some (_, sz, by_) => bif isSliceT P u then match contV m sz x with
      | some new => match s with
        | .nils => if new.length = 0 then some (.nils, m) else if new.length * by_ ≤ 140737488355328 ∧ (new.length : Int) ≤ 9223372036854775807 then some (.sl sz m.length 0 new.length, m ++ [.row e sz new]) else none
        | .sl sz' n off len => match m[n]? with
          | some (.row ty sz'' es) => bif Nat.beq sz sz' && (Nat.beq sz sz'' && (Nat.beq ty e && Nat.ble (off + len) es.length)) then
              if (len + new.length) * by_ ≤ 140737488355328 ∧ ((len + new.length : Nat) : Int) ≤ 9223372036854775807 then
                some (.sl sz m.length 0 (len + new.length), m.set n .dead ++ [.row e sz ((es.drop off).take len ++ new)]) else none
            else none
          | _ => none
        | _ => none
      | none => none
      else none
    | none => none
  | _ => none
theorem Rcc.append {a b : List (List V)} {c : Array Value} {o sz : Nat} (ha : Rcc N ρ I w a c o sz) (hb : Rcc N ρ I w b c (o + a.length * sz) sz) : Rcc N ρ I w (a ++ b) c o sz := Rcc.mk fun i e he => by
  by_cases h : i < a.length
  · rw [List.getElem?_append_left h] at he
    exact ha.get i e he
  · rw [List.getElem?_append_right (by omega)] at he
    obtain ⟨h1, h2⟩ := hb.get _ e he
    refine ⟨h1, ?_⟩
    rwa [Nat.add_assoc, ← Nat.add_mul, show a.length + (i - a.length) = i by omega] at h2
theorem Rcc.shift {a : List (List V)} {c d : Array Value} {o q sz : Nat} (ha : Rcc N ρ I w a c o sz) (h : ∀ j, j < a.length * sz → d[q + j]? = c[o + j]?) : Rcc N ρ I w a d q sz := Rcc.mk fun i e he => by
  obtain ⟨h1, h2⟩ := ha.get i e he
  have hi := (List.getElem?_eq_some_iff.1 he).1
  refine ⟨h1, Rc.mk fun j v hv => ?_⟩
  have hj := (List.getElem?_eq_some_iff.1 hv).1
  obtain ⟨x, k1, k2⟩ := h2.get j v hv
  refine ⟨x, ?_, k2⟩
  have := Nat.mul_le_mul_right sz (show i + 1 ≤ a.length from hi)
  rw [Nat.add_mul] at this
  rw [Nat.add_assoc, h _ (by omega), ← k1, Nat.add_assoc]
theorem ones_of_rcc {es : List (List V)} {news : List Value} {sz : Nat} (h : Rcc N ρ I w es news.toArray 0 sz) (hs : news.length = es.length * sz) : ∀ v ∈ news, v.oneCell' = true := by
  intro v hv
  obtain ⟨i, hi⟩ := List.getElem?_of_mem hv
  have hil := (List.getElem?_eq_some_iff.1 hi).1
  rcases Nat.eq_zero_or_pos sz with rfl | hsz
  · omega
  have hq : i / sz < es.length := by rw [Nat.div_lt_iff_lt_mul hsz]; omega
  obtain ⟨e1, e2⟩ := h.get (i / sz) _ (List.getElem?_eq_getElem hq)
  have hm : i % sz < es[i / sz].length := by rw [e1]; exact Nat.mod_lt _ hsz
  obtain ⟨x, k1, k2, _⟩ := e2.get (i % sz) _ (List.getElem?_eq_getElem hm)
  have hdm : 0 + i / sz * sz + i % sz = i := by rw [Nat.zero_add, Nat.mul_comm]; exact Nat.div_add_mod _ _
  rw [hdm, List.getElem?_toArray, hi] at k1
  cases k1
  exact k2
theorem grownCap_le (w : World) {need : Nat} (old : Nat) (e : TypeId) (h : need ≤ 9223372036854775807) : grownCap w need old e ≤ 9223372036854775807 := by
  unfold grownCap
  simp only [Question.cut]
  have h1 : 0 < 2 ^ 63 - need := by
    have : (2 : Nat) ^ 63 = 9223372036854775808 := by decide
    omega
  have h2 := Nat.mod_lt (w.tape w.drawn (.appendCap need old e)) h1
  have : (2 : Nat) ^ 63 = 9223372036854775808 := by decide
  omega
/-- What an append does where there is no room. -/
theorem run_append_new {t u e f : TypeId} {i : TypeInfo} {z : Value} (ht : P.underlying t = some (.slice e)) (hu : P.underlying u = some (.slice f)) (hi : P.info? e = some i) (hz : i.zero = some z)
    {base : Option Addr} {sLen sCap n : Nat} {x : Value} {olds news : List Value} (hl : (Builtin.lenOf x).run P w = .ok n w)
    (hn : (Builtin.firstCells i.size n x).run P w.drew = .ok news.toArray w.drew) (ho : (Builtin.firstCells i.size sLen (.slice base sLen sCap)).run P w.drew = .ok olds.toArray w.drew)
    (hg : sCap < sLen + n) (h63 : ((sLen + n : Nat) : Int) ≤ 9223372036854775807) (hb : (sLen + n) * i.bytes ≤ 140737488355328) (ty : TypeId) :
    (Builtin.append_ #[t, u] ty #[.slice base sLen sCap, x]).run P w =
      .ok (.slice (some ⟨w.heap.size, 0, none⟩) (sLen + n) (grownCap w (sLen + n) sCap e))
        (w.drew.alloc (.cells (olds.toArray ++ news.toArray ++ Builtin.zeroCells z.cells (grownCap w (sLen + n) sCap e - (sLen + n))) e)) := by
  have hn' : ¬ (sLen + n ≤ sCap) := by omega
  have h63' : ¬ (9223372036854775807 < ((sLen : Int) + (n : Int))) := by omega
  have hfit := growslice_fits hg hb
  have h48' : ¬ (281474976710656 < Builtin.nextslicecap (sLen + n) sCap * i.bytes) := by omega
  simp [Builtin.append_, run_underlying ht, run_underlying hu, sizeOf, typeInfo, zeroValue, hi, hz, hl, hn', h63', h48', Question.forced, hn, ho, newRow, grownCap]
  congr 2
  apply Array.ext'
  simp [List.append_assoc]
theorem run_append_in {t u e f : TypeId} {i : TypeInfo} (ht : P.underlying t = some (.slice e)) (hu : P.underlying u = some (.slice f)) (hi : P.info? e = some i)
    {a : Addr} {sLen sCap n : Nat} {x : Value} {news : List Value} {w' : World} (hl : (Builtin.lenOf x).run P w = .ok n w)
    (hn : (Builtin.firstCells i.size n x).run P w = .ok news.toArray w) (hs : (storeCells (a.add (sLen * i.size)) news).run P w = .ok () w')
    (hg : sLen + n ≤ sCap) (ty : TypeId) :
    (Builtin.append_ #[t, u] ty #[.slice (some a) sLen sCap, x]).run P w = .ok (.slice (some a) (sLen + n) sCap) w' := by
  simp [Builtin.append_, run_underlying ht, run_underlying hu, sizeOf, typeInfo, hi, hl, hg, hn, hs]
theorem run_append_none {t u e f : TypeId} {i : TypeInfo} (ht : P.underlying t = some (.slice e)) (hu : P.underlying u = some (.slice f)) (hi : P.info? e = some i)
    {x : Value} (hl : (Builtin.lenOf x).run P w = .ok 0 w)
    (hn : (Builtin.firstCells i.size 0 x).run P w = .ok #[] w) (ty : TypeId) :
    (Builtin.append_ #[t, u] ty #[.slice none 0 0, x]).run P w = .ok (.slice none 0 0) w := by
  simp [Builtin.append_, run_underlying ht, run_underlying hu, sizeOf, typeInfo, hi, hl, hn]
theorem newcells {olds news : List Value} {z : Array Value} {cap need : Nat} {a b : List (List V)} {sz : Nat} (ha : Rcc N ρ I w a olds.toArray 0 sz) (hb : Rcc N ρ I w b news.toArray 0 sz)
    (hal : olds.length = a.length * sz) (hbl : news.length = b.length * sz) (hz : z.size = sz) (hn : need = a.length + b.length) (hc : need ≤ cap) :
    Rcc N ρ I w (a ++ b) (olds.toArray ++ news.toArray ++ Builtin.zeroCells z (cap - need)) 0 sz ∧ (olds.toArray ++ news.toArray ++ Builtin.zeroCells z (cap - need)).size = cap * sz := by
  constructor
  · refine Rcc.append (Rcc.shift ha fun j hj => ?_) (Rcc.shift hb fun j hj => ?_)
    · rw [Array.getElem?_append_left (by simp; omega), Array.getElem?_append_left (by simp; omega)]
    · rw [Array.getElem?_append_left (by simp; omega), Array.getElem?_append_right (by simp; omega)]
      congr 1; simp; omega
  · rw [Array.size_append, Array.size_append, size_zeroCells, hz]
    simp only [List.size_toArray, hal, hbl, ← Nat.add_mul, hn]
    congr 1; omega
theorem appendV_sound (hr : Rep ρ I m w) {t u : TypeId} {s x v : V} {a b : Value} {m' : Mem} (hs : RV m.length ρ I w s a) (hx : RV m.length ρ I w x b) (h : appendV P t u s x m = some (v, m')) (ty : TypeId) :
    Came P ρ I m w (Builtin.append_ #[t, u] ty #[a, b]) v m' := by
  unfold appendV at h
  split at h
  · rename_i e hu
    split at h
    · rename_i zl sz by_ hz
      obtain ⟨i, zv, z1, z2, z3, z4, z5, _, _, z8⟩ := zeroE_sound hz m.length ρ I w
      cases hc : isSliceT P u with
      | false => rw [hc] at h; cases h
      | true =>
        rw [hc] at h
        simp only [cond_true] at h
        unfold isSliceT at hc
        split at hc
        · rename_i f hu2
          split at h
          · rename_i new hnew
            obtain ⟨news, hn⟩ := contV_sound (P := P) hr z5 hx hnew
            have hnr : Rep ρ I m w.drew ∧ Step ρ I m w ρ I m w.drew := hr.same (Same.drew w)
            split at h
            · simp only [RV] at hs
              subst hs
              split at h
              · rename_i h0
                cases h
                have hl := hn.len
                have hf := hn.first w (Same.refl w)
                have hns : news = [] := by have := hn.size; rw [h0] at this; simp at this; exact this
                rw [h0] at hl hf
                rw [hns] at hf
                exact ⟨_, w, ρ, I, run_append_none hu hu2 z1 hl (by rw [z3]; exact hf) ty, hr, Step.refl _ _ _ _, by simp [RV]⟩
              · rename_i h0
                split at h
                · rename_i hb
                  cases h
                  have hrun := run_append_new (P := P) (base := none) (sLen := 0) (sCap := 0) (olds := []) hu hu2 z1 z2 hn.len (by rw [z3]; exact hn.first _ (Same.drew w)) (by rfl) (by omega) (by simpa using hb.2) (by rw [z4]; simpa using hb.1) ty
                  have hcap := grownCap_ge w (0 + new.length) 0 e
                  obtain ⟨n1, n2⟩ := newcells (a := []) (b := new) (cap := grownCap w (0 + new.length) 0 e) (need := 0 + new.length) (olds := []) (by simp [Rcc]) (Rcc.keep hnr.2.keeps _ _ _ _ hn.rel) (by simp) hn.size z8 (by simp) hcap
                  simp only [List.nil_append] at n1
                  obtain ⟨k1, k2⟩ := hnr.1.alloc (.cells _ e) (.row e sz new) (fun hk => ⟨_, heap_alloc_new w.drew _, by rw [n2]; simp only [Nat.zero_add] at hcap ⊢; exact Nat.mul_le_mul_right _ hcap, Rcc.keep hk _ _ _ _ n1⟩)
                  refine ⟨_, _, _, _, hrun, k1, hnr.2.trans k2, ?_⟩
                  simp only [RV]
                  refine ⟨by simp, 0, grownCap w (0 + new.length) 0 e, by rw [Pl.put_self, Nat.zero_add]; rfl, ⟨by omega, grownCap_le w _ _ (by omega)⟩, .inr (by rw [Pl.put_self]; simp), _, e, by rw [Pl.put_self]; exact heap_alloc_new w.drew _, .inr ?_⟩
                  rw [n2]; simp
                · cases h
            · rename_i sz' n off len
              split at h
              · rename_i _ ty' sz'' es hm
                cases hc2 : Nat.beq sz sz' && (Nat.beq sz sz'' && (Nat.beq ty' e && Nat.ble (off + len) es.length)) with
                | false => rw [hc2] at h; cases h
                | true =>
                  rw [hc2] at h
                  simp only [cond_true] at h
                  simp only [Bool.and_eq_true, Nat.beq_eq, Nat.ble_eq] at hc2
                  obtain ⟨rfl, rfl, rfl, hfull0⟩ := hc2
                  split at h
                  · rename_i hb
                    cases h
                    have hsv := hs
                    simp only [RV] at hs
                    obtain ⟨q1, o, cap, rfl, q2, q3, c, ty', q4, q5⟩ := hs
                    obtain ⟨c1, g1, g20, g30⟩ := hr.blk _ _ hm
                    rw [q4] at g1
                    cases g1
                    have hlv := live_of hm rfl
                    have hcontS0 : contV m sz (.sl sz n off len) = some ((es.drop off).take len) := by
                      simp only [contV, hm]
                      have e1 : Nat.beq sz sz = true := by simp
                      have e2 : Nat.ble (off + len) es.length = true := by rw [Nat.ble_eq]; omega
                      rw [e1, e2]
                      simp only [Bool.and_self, cond_true]
                    obtain ⟨es', hes'⟩ : ∃ es', es' = es.take (off + len) := ⟨_, rfl⟩
                    have hdt : (es.drop off).take len = es'.drop off := by
                      rw [hes', List.drop_take]
                      congr 1; omega
                    have hfull : off + len = es'.length := by rw [hes', List.length_take]; omega
                    have g2 : (ρ n).2 + es'.length * sz ≤ c.size := by
                      have := Nat.mul_le_mul_right sz (show es'.length ≤ es.length by omega)
                      omega
                    have g3 : Rcc m.length ρ I w es' c (ρ n).2 sz := Rcc.mk fun j u hu => by
                      rw [hes'] at hu
                      have hj := (List.getElem?_eq_some_iff.1 hu).1
                      rw [List.length_take] at hj
                      rw [List.getElem?_take_of_lt (by omega)] at hu
                      exact g30.get j u hu
                    rw [hdt] at hcontS0 ⊢
                    clear g20 g30 hdt hes'
                    revert hcontS0 hfull g2 g3
                    generalize es' = es1
                    clear es'
                    intro hcontS0 hfull g2 g3
                    have hbytes := hb.1
                    have h63 := hb.2
                    by_cases hroom : len + new.length ≤ cap
                    · by_cases hcap0 : cap = 0
                      · have hl0 : len = 0 := by omega
                        have hn0 : new.length = 0 := by omega
                        have hnew0 : new = [] := List.eq_nil_of_length_eq_zero hn0
                        subst hnew0
                        have hns : news = [] := by have := hn.size; simpa using this
                        subst hns
                        have hrun := run_append_in (P := P) (a := ⟨(ρ n).1, o, none⟩) (sLen := len) (sCap := cap) hu hu2 z1 hn.len (by rw [z3]; exact hn.first w (Same.refl w)) (w' := w) (by rfl) hroom ty
                        have hdrop : es1.drop off ++ [] = [] := by simp; omega
                        obtain ⟨k1, k2⟩ := hr.rename hlv ((ρ n).1, 0) rfl (.row ty' sz (es1.drop off ++ [])) (fun hk => ⟨c, q4, by rw [hdrop]; simp, by rw [hdrop]; simp [Rcc]⟩)
                        refine ⟨_, w, _, I, hrun, k1, k2, ?_⟩
                        simp only [RV]
                        exact ⟨by simp, o, cap, by rw [Pl.put_self], ⟨hroom, q2.2⟩, .inl hcap0, c, ty', by rw [Pl.put_self]; exact q4, .inl hcap0⟩
                      · have ho : o = (ρ n).2 + off * sz := by rcases q3 with q3 | q3 <;> first | omega | exact q3
                        have hcs : o + cap * sz ≤ c.size := by rcases q5 with q5 | q5 <;> first | omega | exact q5
                        have hmul : len * sz + new.length * sz ≤ cap * sz := by rw [← Nat.add_mul]; exact Nat.mul_le_mul_right _ hroom
                        have hend : (ρ n).2 + es1.length * sz = o + len * sz := by rw [ho, ← hfull, Nat.add_mul]; omega
                        have hst : (storeCells (Addr.add ⟨(ρ n).1, o, none⟩ (len * i.size)) news).run P w = .ok () (w.setRow (ρ n).1 (splice c.toList (o + len * sz) news).toArray) := by
                          rw [Addr.add_lit, z3]
                          exact run_storeCells_splice q4 news (by rw [hn.size]; omega) (ones_of_rcc hn.rel hn.size)
                        have hs2 : (splice c.toList (o + len * sz) news).toArray.size = c.size := by
                          have := hn.size
                          simp [splice]; omega
                        obtain ⟨f1, f2, f3, f4⟩ := setRow_facts q4 hs2
                        obtain ⟨k1, k2⟩ := hr.write (w' := w.setRow (ρ n).1 (splice c.toList (o + len * sz) news).toArray) hlv (.row ty' sz (es1 ++ new)) rfl rfl rfl f1 f2 f4 (fun hk => by
                          refine ⟨_, f3, by rw [hs2, List.length_append, Nat.add_mul]; omega, Rcc.append (Rcc.mk fun j u hu => ?_) (Rcc.shift (Rcc.keep hk _ _ _ _ hn.rel) fun j hj => ?_)⟩
                          · obtain ⟨u1, u2⟩ := (Rcc.keep hk _ _ _ _ g3).get j u hu
                            have hj := (List.getElem?_eq_some_iff.1 hu).1
                            have := Nat.mul_le_mul_right sz (show j + 1 ≤ es1.length from hj)
                            rw [Nat.add_mul] at this
                            exact ⟨u1, Rc.splice_out u2 (by rw [hn.size]; omega) (.inl (by omega))⟩
                          · rw [hend, List.getElem?_toArray, splice_get (by rw [hn.size]; simp; omega), if_neg (by omega), if_pos (by rw [hn.size]; omega)]
                            simp)
                        have hm1 : (m.set n (.row ty' sz (es1 ++ new)))[n]? = some (.row ty' sz (es1 ++ new)) := List.getElem?_set_self q1
                        obtain ⟨l1, l2⟩ := k1.rename (live_of hm1 rfl) ((ρ n).1, o) rfl (.row ty' sz (es1.drop off ++ new)) (fun hk => by
                          obtain ⟨c3, r1, r2, r3⟩ := k1.blk _ _ hm1
                          refine ⟨c3, r1, ?_, ?_⟩
                          · rw [List.length_append, List.length_drop, Nat.add_mul]
                            rw [List.length_append, Nat.add_mul] at r2
                            have : (es1.length - off) * sz = len * sz := by congr 1; omega
                            show o + _ ≤ _
                            omega
                          · refine Rcc.mk fun j u hu => ?_
                            have e0 : es1.drop off ++ new = (es1 ++ new).drop off := by rw [List.drop_append_of_le_length (by omega)]
                            rw [e0, List.getElem?_drop] at hu
                            obtain ⟨u1, u2⟩ := (Rcc.keep hk _ _ _ _ r3).get _ u hu
                            refine ⟨u1, ?_⟩
                            rw [Nat.add_mul, ← Nat.add_assoc, ← ho] at u2
                            exact u2)
                        have hrun := run_append_in (P := P) (a := ⟨(ρ n).1, o, none⟩) (sLen := len) (sCap := cap) hu hu2 z1 hn.len (by rw [z3]; exact hn.first w (Same.refl w)) hst hroom ty
                        rw [List.set_set, List.length_set] at l1 l2
                        refine ⟨_, _, _, I, hrun, l1, k2.trans l2, ?_⟩
                        simp only [RV]
                        refine ⟨by simp, o, cap, by rw [Pl.put_self], ⟨hroom, q2.2⟩, .inr (by rw [Pl.put_self]; simp), _, ty', by rw [Pl.put_self]; exact f3, .inr (by rw [hs2]; exact hcs)⟩
                    · have hcontS : contV m sz (.sl sz n off len) = some (es1.drop off) := hcontS0
                      obtain ⟨olds, hold⟩ := contV_sound (P := P) hr z5 hsv hcontS
                      have hlen : (es1.drop off).length = len := by simp; omega
                      have hfo := hold.first _ (Same.drew w)
                      rw [hlen] at hfo
                      have hrun := run_append_new (P := P) (base := some ⟨(ρ n).1, o, none⟩) (sLen := len) (sCap := cap) hu hu2 z1 z2 hn.len (by rw [z3]; exact hn.first _ (Same.drew w)) (by rw [z3]; exact hfo) (by omega) h63 (by rw [z4]; exact hbytes) ty
                      have hcap := grownCap_ge w (len + new.length) cap ty'
                      obtain ⟨p1, p2⟩ := hnr.1.kill n
                      have hkeep := (hnr.2.trans p2).keeps
                      rw [List.length_set] at hkeep
                      obtain ⟨n1, n2⟩ := newcells (cap := grownCap w (len + new.length) cap ty') (Rcc.keep hkeep _ _ _ _ hold.rel) (Rcc.keep hkeep _ _ _ _ hn.rel) hold.size hn.size z8 (by rw [hlen]) hcap
                      obtain ⟨k1, k2⟩ := p1.alloc (.cells _ ty') (.row ty' sz (es1.drop off ++ new)) (fun hk => ⟨_, heap_alloc_new w.drew _, by
                        rw [n2, List.length_append, hlen]
                        simp only [Nat.zero_add]
                        exact Nat.mul_le_mul_right _ hcap, by
                        rw [List.length_set] at hk ⊢
                        exact Rcc.keep hk _ _ _ _ n1⟩)
                      rw [List.length_set] at k1 k2
                      refine ⟨_, _, _, _, hrun, k1, (hnr.2.trans p2).trans k2, ?_⟩
                      simp only [RV]
                      refine ⟨by simp, 0, grownCap w (len + new.length) cap ty', by rw [Pl.put_self]; rfl, ⟨hcap, grownCap_le w _ _ (by omega)⟩, .inr (by rw [Pl.put_self]; simp), _, ty', by rw [Pl.put_self]; exact heap_alloc_new w.drew _, .inr ?_⟩
                      rw [n2]; simp
                  · cases h
              · cases h
            · cases h
          · cases h
        · cases hc
    · cases h
  · cases h
end
end Go.Proofs.Ytjjenpdjmcmgbaa.Ab
namespace Go.Proofs.Ytjjenpdjmcmgbaa.Ab
open Go
set_option linter.unusedSimpArgs false
set_option linter.unusedVariables false
mutual
/-- No name of a block of the call's own stands in it. -/
def nf : V → Bool
  | .ptr _ _ => false
  | .ep _ _ _ _ => false
  | .sl _ _ _ _ => false
  | .mp _ => false
  | .unk => true
  | .ip l => nfs l
  | .isl _ es => nfss es
  | .fn _ a b => nfs a && nfs b
  | .ifc _ v => nf v
  | .agg l => nfs l
  | .tup l => nfs l
  | .bool _ => true
  | .int _ _ => true
  | .str _ => true
  | .nilp => true
  | .nils => true
  | .nilm => true
  | .nilf => true
  | .nili => true
def nfs : List V → Bool
  | [] => true
  | v :: r => nf v && nfs r
def nfss : List (List V) → Bool
  | [] => true
  | v :: r => nfs v && nfss r
end
mutual
/-- Names changed. -/
def ren (τ : Nat → Nat) : V → V
  | .ptr n off => .ptr (τ n) off
  | .ep sz n i off => .ep sz (τ n) i off
  | .sl sz n off len => .sl sz (τ n) off len
  | .mp n => .mp (τ n)
  | .ip l => .ip l
  | .isl sz es => .isl sz es
  | .fn f a b => .fn f (rens τ a) (rens τ b)
  | .ifc t v => .ifc t (ren τ v)
  | .agg l => .agg (rens τ l)
  | .tup l => .tup (rens τ l)
  | .unk => .unk
  | .bool b => .bool b
  | .int k n => .int k n
  | .str s => .str s
  | .nilp => .nilp
  | .nils => .nils
  | .nilm => .nilm
  | .nilf => .nilf
  | .nili => .nili
def rens (τ : Nat → Nat) : List V → List V
  | [] => []
  | v :: r => ren τ v :: rens τ r
end
theorem rens_length (τ : Nat → Nat) : ∀ l, (rens τ l).length = l.length
  | [] => rfl
  | _ :: r => by simp [rens, rens_length τ r]
mutual
/-- Values without names stay as they are. -/
theorem ren_nf (τ : Nat → Nat) : ∀ v, nf v = true → ren τ v = v
  | .ptr _ _, h => by simp [nf] at h
  | .ep _ _ _ _, h => by simp [nf] at h
  | .sl _ _ _ _, h => by simp [nf] at h
  | .mp _, h => by simp [nf] at h
  | .unk, _ => rfl
  | .ip _, _ => rfl
  | .isl _ _, _ => rfl
  | .fn _ a b, h => by simp only [nf, Bool.and_eq_true] at h; simp only [ren, rens_nf τ a h.1, rens_nf τ b h.2]
  | .ifc _ v, h => by simp only [nf] at h; simp only [ren, ren_nf τ v h]
  | .agg l, h => by simp only [nf] at h; simp only [ren, rens_nf τ l h]
  | .tup l, h => by simp only [nf] at h; simp only [ren, rens_nf τ l h]
  | .bool _, _ => rfl
  | .int _ _, _ => rfl
  | .str _, _ => rfl
  | .nilp, _ => rfl
  | .nils, _ => rfl
  | .nilm, _ => rfl
  | .nilf, _ => rfl
  | .nili, _ => rfl
theorem rens_nf (τ : Nat → Nat) : ∀ l, nfs l = true → rens τ l = l
  | [], _ => rfl
  | v :: r, h => by simp only [nfs, Bool.and_eq_true] at h; simp only [rens, ren_nf τ v h.1, rens_nf τ r h.2]
end
mutual
/-- The names that stand in it are let in. -/
def inD (D : Nat → Bool) : V → Bool
  | .ptr n _ => D n
  | .ep _ n _ _ => D n
  | .sl _ n _ _ => D n
  | .mp n => D n
  | .ip l => nfs l
  | .isl _ es => nfss es
  | .fn _ a b => inDs D a && inDs D b
  | .ifc _ v => inD D v
  | .agg l => inDs D l
  | .tup l => inDs D l
  | .unk => true
  | .bool _ => true
  | .int _ _ => true
  | .str _ => true
  | .nilp => true
  | .nils => true
  | .nilm => true
  | .nilf => true
  | .nili => true
def inDs (D : Nat → Bool) : List V → Bool
  | [] => true
  | v :: r => inD D v && inDs D r
end
section
variable {N N' : Nat} {ρ : Pl} {I : Nat → Prop} {w : World}
mutual
/-- A value without names stands for the same under any names. -/
theorem RV_nf {ρ' : Pl} : ∀ (v : V) (x : Value), nf v = true → RV N ρ I w v x → RV N' ρ' I w v x
  | .ptr _ _, _, h, _ => by simp [nf] at h
  | .ep _ _ _ _, _, h, _ => by simp [nf] at h
  | .sl _ _ _ _, _, h, _ => by simp [nf] at h
  | .mp _, _, h, _ => by simp [nf] at h
  | .unk, x, _, h => by simp [RV]
  | .bool b, x, _, h => by simpa [RV] using h
  | .int k n, x, _, h => by simpa [RV] using h
  | .str s, x, _, h => by simpa [RV] using h
  | .nilp, x, _, h => by simpa [RV] using h
  | .nils, x, _, h => by simpa [RV] using h
  | .nilm, x, _, h => by simpa [RV] using h
  | .nilf, x, _, h => by simpa [RV] using h
  | .nili, x, _, h => by simpa [RV] using h
  | .ip l, x, h0, h => by
    simp only [nf] at h0
    simp only [RV] at h ⊢
    obtain ⟨b, o, c, ty, fr, h1, h2, h3, h4⟩ := h
    exact ⟨b, o, c, ty, fr, h1, h2, h3, Rc_nf l c o h0 h4.1, h4.2⟩
  | .isl sz es, x, h0, h => by
    simp only [nf] at h0
    simp only [RV] at h ⊢
    obtain ⟨a, cap, h1, h2, h3⟩ := h
    refine ⟨a, cap, h1, h2, ?_⟩
    rcases h3 with rfl | ⟨b, o, c, ty, fr, h3, h4, h5, h6⟩
    · exact .inl rfl
    · exact .inr ⟨b, o, c, ty, fr, h3, h4, h5, Rcc_nf es c o sz h0 h6.1, h6.2⟩
  | .fn f fi cp, x, h0, h => by
    simp only [nf, Bool.and_eq_true] at h0
    simp only [RV] at h ⊢
    obtain ⟨a, b, h1, h2, h3, h4, h5⟩ := h
    exact ⟨a, b, h1, h2, Rt_nf fi a 0 h0.1 h3, h4, Rt_nf cp b 0 h0.2 h5⟩
  | .ifc t v, x, h0, h => by
    simp only [nf] at h0
    simp only [RV] at h ⊢
    obtain ⟨y, h1, h2⟩ := h
    exact ⟨y, h1, RV_nf v y h0 h2⟩
  | .agg l, x, h0, h => by
    simp only [nf] at h0
    simp only [RV] at h ⊢
    obtain ⟨c, h1, h2, h3⟩ := h
    exact ⟨c, h1, h2, Rc_nf l c 0 h0 h3⟩
  | .tup l, x, h0, h => by
    simp only [nf] at h0
    simp only [RV] at h ⊢
    obtain ⟨c, h1, h2, h3⟩ := h
    exact ⟨c, h1, h2, Rt_nf l c 0 h0 h3⟩
theorem Rc_nf {ρ' : Pl} : ∀ (l : List V) (c : Array Value) (o : Nat), nfs l = true → Rc N ρ I w l c o → Rc N' ρ' I w l c o
  | [], _, _, _, _ => by simp [Rc]
  | v :: r, c, o, h0, h => by
    simp only [nfs, Bool.and_eq_true] at h0
    simp only [Rc] at h ⊢
    obtain ⟨⟨x, h1, h2, h3⟩, h4⟩ := h
    exact ⟨⟨x, h1, h2, RV_nf v x h0.1 h3⟩, Rc_nf r c (o + 1) h0.2 h4⟩
theorem Rt_nf {ρ' : Pl} : ∀ (l : List V) (c : Array Value) (o : Nat), nfs l = true → Rt N ρ I w l c o → Rt N' ρ' I w l c o
  | [], _, _, _, _ => by simp [Rt]
  | v :: r, c, o, h0, h => by
    simp only [nfs, Bool.and_eq_true] at h0
    simp only [Rt] at h ⊢
    obtain ⟨⟨x, h1, h3⟩, h4⟩ := h
    exact ⟨⟨x, h1, RV_nf v x h0.1 h3⟩, Rt_nf r c (o + 1) h0.2 h4⟩
theorem Rcc_nf {ρ' : Pl} : ∀ (l : List (List V)) (c : Array Value) (o sz : Nat), nfss l = true → Rcc N ρ I w l c o sz → Rcc N' ρ' I w l c o sz
  | [], _, _, _, _, _ => by simp [Rcc]
  | e :: r, c, o, sz, h0, h => by
    simp only [nfss, Bool.and_eq_true] at h0
    simp only [Rcc] at h ⊢
    exact ⟨⟨h.1.1, Rc_nf e c o h0.1 h.1.2⟩, Rcc_nf r c (o + sz) sz h0.2 h.2⟩
end
mutual
/-- Under other names. -/
theorem RV_sub {ρ' : Pl} {τ : Nat → Nat} {D : Nat → Bool} (hτ : ∀ n, D n = true → n < N → τ n < N' ∧ ρ' (τ n) = ρ n) : ∀ (v : V) (x : Value), inD D v = true → RV N ρ I w v x → RV N' ρ' I w (ren τ v) x
  | .unk, _, _, _ => by simp [ren, RV]
  | .bool b, x, _, h => by simpa [ren, RV] using h
  | .int k n, x, _, h => by simpa [ren, RV] using h
  | .str s, x, _, h => by simpa [ren, RV] using h
  | .nilp, x, _, h => by simpa [ren, RV] using h
  | .nils, x, _, h => by simpa [ren, RV] using h
  | .nilm, x, _, h => by simpa [ren, RV] using h
  | .nilf, x, _, h => by simpa [ren, RV] using h
  | .nili, x, _, h => by simpa [ren, RV] using h
  | .ptr n off, x, h0, h => by
    simp only [inD] at h0
    simp only [ren, RV] at h ⊢
    obtain ⟨k1, k2⟩ := hτ n h0 h.1
    exact ⟨k1, by rw [k2]; exact h.2⟩
  | .ep sz n i off, x, h0, h => by
    simp only [inD] at h0
    simp only [ren, RV] at h ⊢
    obtain ⟨k1, k2⟩ := hτ n h0 h.1
    exact ⟨k1, by rw [k2]; exact h.2⟩
  | .sl sz n off len, x, h0, h => by
    simp only [inD] at h0
    simp only [ren, RV] at h ⊢
    obtain ⟨k1, k2⟩ := hτ n h0 h.1
    exact ⟨k1, by rw [k2]; exact h.2⟩
  | .mp n, x, h0, h => by
    simp only [inD] at h0
    simp only [ren, RV] at h ⊢
    obtain ⟨k1, k2⟩ := hτ n h0 h.1
    exact ⟨k1, by rw [k2]; exact h.2⟩
  | .ip l, x, h0, h => by
    simp only [inD] at h0
    simp only [ren, RV] at h ⊢
    obtain ⟨b, o, c, ty, fr, h1, h2, h3, h4⟩ := h
    exact ⟨b, o, c, ty, fr, h1, h2, h3, Rc_nf l c o h0 h4.1, h4.2⟩
  | .isl sz es, x, h0, h => by
    simp only [inD] at h0
    simp only [ren, RV] at h ⊢
    obtain ⟨a, cap, h1, h2, h3⟩ := h
    refine ⟨a, cap, h1, h2, ?_⟩
    rcases h3 with rfl | ⟨b, o, c, ty, fr, h3, h4, h5, h6⟩
    · exact .inl rfl
    · exact .inr ⟨b, o, c, ty, fr, h3, h4, h5, Rcc_nf es c o sz h0 h6.1, h6.2⟩
  | .fn f fi cp, x, h0, h => by
    simp only [inD, Bool.and_eq_true] at h0
    simp only [ren, RV] at h ⊢
    obtain ⟨a, b, h1, h2, h3, h4, h5⟩ := h
    exact ⟨a, b, h1, by rw [rens_length]; exact h2, Rt_sub hτ fi a 0 h0.1 h3, by rw [rens_length]; exact h4, Rt_sub hτ cp b 0 h0.2 h5⟩
  | .ifc t v, x, h0, h => by
    simp only [inD] at h0
    simp only [ren, RV] at h ⊢
    obtain ⟨y, h1, h2⟩ := h
    exact ⟨y, h1, RV_sub hτ v y h0 h2⟩
  | .agg l, x, h0, h => by
    simp only [inD] at h0
    simp only [ren, RV] at h ⊢
    obtain ⟨c, h1, h2, h3⟩ := h
    exact ⟨c, h1, by rw [rens_length]; exact h2, Rc_sub hτ l c 0 h0 h3⟩
  | .tup l, x, h0, h => by
    simp only [inD] at h0
    simp only [ren, RV] at h ⊢
    obtain ⟨c, h1, h2, h3⟩ := h
    exact ⟨c, h1, by rw [rens_length]; exact h2, Rt_sub hτ l c 0 h0 h3⟩
theorem Rc_sub {ρ' : Pl} {τ : Nat → Nat} {D : Nat → Bool} (hτ : ∀ n, D n = true → n < N → τ n < N' ∧ ρ' (τ n) = ρ n) : ∀ (l : List V) (c : Array Value) (o : Nat), inDs D l = true → Rc N ρ I w l c o → Rc N' ρ' I w (rens τ l) c o
  | [], _, _, _, _ => by simp [rens, Rc]
  | v :: r, c, o, h0, h => by
    simp only [inDs, Bool.and_eq_true] at h0
    simp only [rens, Rc] at h ⊢
    obtain ⟨⟨x, h1, h2, h3⟩, h4⟩ := h
    exact ⟨⟨x, h1, h2, RV_sub hτ v x h0.1 h3⟩, Rc_sub hτ r c (o + 1) h0.2 h4⟩
theorem Rt_sub {ρ' : Pl} {τ : Nat → Nat} {D : Nat → Bool} (hτ : ∀ n, D n = true → n < N → τ n < N' ∧ ρ' (τ n) = ρ n) : ∀ (l : List V) (c : Array Value) (o : Nat), inDs D l = true → Rt N ρ I w l c o → Rt N' ρ' I w (rens τ l) c o
  | [], _, _, _, _ => by simp [rens, Rt]
  | v :: r, c, o, h0, h => by
    simp only [inDs, Bool.and_eq_true] at h0
    simp only [rens, Rt] at h ⊢
    obtain ⟨⟨x, h1, h3⟩, h4⟩ := h
    exact ⟨⟨x, h1, RV_sub hτ v x h0.1 h3⟩, Rt_sub hτ r c (o + 1) h0.2 h4⟩
end
def inDss (D : Nat → Bool) : List (List V) → Bool
  | [] => true
  | e :: r => inDs D e && inDss D r
def inDp (D : Nat → Bool) : List (V × V) → Bool
  | [] => true
  | (k, v) :: r => inD D k && (inD D v && inDp D r)
def renss (τ : Nat → Nat) : List (List V) → List (List V)
  | [] => []
  | e :: r => rens τ e :: renss τ r
def renp (τ : Nat → Nat) : List (V × V) → List (V × V)
  | [] => []
  | (k, v) :: r => (ren τ k, ren τ v) :: renp τ r
theorem renss_length (τ : Nat → Nat) : ∀ l, (renss τ l).length = l.length
  | [] => rfl
  | _ :: r => by simp [renss, renss_length τ r]
theorem Rcc_sub {ρ' : Pl} {τ : Nat → Nat} {D : Nat → Bool} (hτ : ∀ n, D n = true → n < N → τ n < N' ∧ ρ' (τ n) = ρ n) : ∀ (l : List (List V)) (c : Array Value) (o sz : Nat), inDss D l = true → Rcc N ρ I w l c o sz → Rcc N' ρ' I w (renss τ l) c o sz
  | [], _, _, _, _, _ => by simp [renss, Rcc]
  | e :: r, c, o, sz, h0, h => by
    simp only [inDss, Bool.and_eq_true] at h0
    simp only [renss, Rcc] at h ⊢
    exact ⟨⟨by rw [rens_length]; exact h.1.1, Rc_sub hτ e c o h0.1 h.1.2⟩, Rcc_sub hτ r c (o + sz) sz h0.2 h.2⟩
theorem Re_sub {ρ' : Pl} {τ : Nat → Nat} {D : Nat → Bool} (hτ : ∀ n, D n = true → n < N → τ n < N' ∧ ρ' (τ n) = ρ n) : ∀ (l : List (V × V)) (es : List MapEntry), inDp D l = true → Re N ρ I w l es → Re N' ρ' I w (renp τ l) es
  | [], [], _, _ => by simp [renp, Re]
  | [], _ :: _, _, h => by simp [Re] at h
  | _ :: _, [], _, h => by simp [Re] at h
  | (k, v) :: r, e :: es, h0, h => by
    simp only [inDp, Bool.and_eq_true] at h0
    simp only [renp, Re] at h ⊢
    exact ⟨RV_sub hτ _ _ h0.1 h.1, RV_sub hτ _ _ h0.2.1 h.2.1, Re_sub hτ r es h0.2.2 h.2.2⟩
def inDB (D : Nat → Bool) : B → Bool
  | .dead => true
  | .var _ l => inDs D l
  | .row _ _ es => inDss D es
  | .map es _ _ => inDp D es
  | .iter k _ _ _ => D k
def renB (τ : Nat → Nat) : B → B
  | .var ty l => .var ty (rens τ l)
  | .row ty sz es => .row ty sz (renss τ es)
  | .map es bs clk => .map (renp τ es) bs clk
  | .iter k since seen last => .iter (τ k) since seen last
  | .dead => .dead
theorem renB_live (τ : Nat → Nat) (b : B) : (renB τ b).live = b.live := by cases b <;> rfl
theorem holds_sub {ρ' : Pl} {τ : Nat → Nat} {D : Nat → Bool} (hτ : ∀ n, D n = true → n < N → τ n < N' ∧ ρ' (τ n) = ρ n) {p : Nat × Nat} {b : B} (hb : inDB D b = true) (h : holds N ρ I w p b) : holds N' ρ' I w p (renB τ b) := by
  cases b with
  | dead => trivial
  | var ty l => obtain ⟨h0, c, h1, h2, h3⟩ := h; exact ⟨h0, c, h1, by rw [rens_length]; exact h2, Rc_sub hτ l c 0 hb h3⟩
  | row ty sz es => obtain ⟨c, h1, h2, h3⟩ := h; exact ⟨c, h1, by rw [renss_length]; exact h2, Rcc_sub hτ es c _ sz hb h3⟩
  | map es bs clk => obtain ⟨h0, c, h1, h2, h3⟩ := h; exact ⟨h0, c, h1, Re_sub hτ es _ hb h2, h3⟩
  | iter k since seen last => obtain ⟨h0, h1, h2⟩ := h; obtain ⟨a, b⟩ := hτ k hb h1; exact ⟨h0, a, by rw [b]; exact h2⟩
end
end Go.Proofs.Ytjjenpdjmcmgbaa.Ab
