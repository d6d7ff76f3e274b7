/- The evaluator's slices: literals, cuts, appends, lengths. No condition. -/
import Derived.Test.YtnhejkfbnjopjaaAbs5
namespace Go.Proofs.Ytnhejkfbnjopjaa.Ab
open Go
set_option linter.unusedSimpArgs false
set_option linter.unusedVariables false

section
variable {P : Program} {N : Nat} {ρ : Pl} {I : Nat → Prop} {w : World} {m : Mem}

/-- The cells of a type's zero value, with the type's size and bytes. -/
def zeroE (P : Program) (e : TypeId) : Option (List V × Nat × Nat) :=
  match P.info? e with
  | some i => match i.zero with
    | some z => bif Nat.beq (cellsOfV (constV z)).length i.size && (cellsB (constV z) && !Nat.beq i.size 0) then some (cellsOfV (constV z), i.size, i.bytes) else none
    | none => none
  | none => none

theorem zeroE_sound {e : TypeId} {l : List V} {sz by_ : Nat} (h : zeroE P e = some (l, sz, by_)) (N : Nat) (ρ : Pl) (I : Nat → Prop) (w : World) :
    ∃ i z, P.info? e = some i ∧ i.zero = some z ∧ i.size = sz ∧ i.bytes = by_ ∧ 0 < sz ∧ Rc N ρ I w l z.cells 0 ∧ l.length = sz ∧ z.cells.size = sz := by
  unfold zeroE at h
  split at h
  · rename_i i hi
    split at h
    · rename_i z hz
      cases hc : Nat.beq (cellsOfV (constV z)).length i.size && (cellsB (constV z) && !Nat.beq i.size 0) with
      | false => rw [hc] at h; cases h
      | true =>
        rw [hc] at h
        simp only [cond_true, Option.some.injEq, Prod.mk.injEq] at h
        simp only [Bool.and_eq_true, Nat.beq_eq, Bool.not_eq_true'] at hc
        obtain ⟨rfl, rfl, rfl⟩ := h
        obtain ⟨k1, k2, _⟩ := cellsOfV_sound hc.2.1 (RV_constV N ρ I w z)
        have h0 : i.size ≠ 0 := fun e => by rw [e] at hc; simp at hc
        exact ⟨i, z, hi, hz, rfl, rfl, by omega, k1, hc.1, by omega⟩
    · cases h
  · cases h

theorem Rcc.set {es : List (List V)} {c x : Array Value} {o sz i : Nat} {cs : List V} (h : Rcc N ρ I w es c o sz) (hi : i < es.length) (hc : Rc N ρ I w cs x 0) (hs : cs.length = sz) (hx : x.size = sz)
    (hb : o + es.length * sz ≤ c.size) : Rcc N ρ I w (es.set i cs) (splice c.toList (o + i * sz) x.toList).toArray o sz := Rcc.mk fun j u hu => by
  have hmul : i * sz + sz ≤ es.length * sz := by
    have := Nat.mul_le_mul_right sz (show i + 1 ≤ es.length from hi)
    rw [Nat.add_mul] at this; omega
  by_cases hj : j = i
  · subst hj
    rw [List.getElem?_set_self hi] at hu
    cases hu
    refine ⟨hs, Rc.mk fun k v hv => ?_⟩
    have hk := (List.getElem?_eq_some_iff.1 hv).1
    obtain ⟨y, h1, h2⟩ := hc.get k v hv
    refine ⟨y, ?_, h2⟩
    rw [List.getElem?_toArray, splice_get (by simp; omega), if_neg (by omega), if_pos (by simp; omega), ← h1]
    simp
  · rw [List.getElem?_set_ne (fun h => hj h.symm)] at hu
    obtain ⟨u1, u2⟩ := h.get j u hu
    refine ⟨u1, Rc.splice_out u2 (by simp; omega) ?_⟩
    rcases Nat.lt_or_gt_of_ne hj with hlt | hgt
    · left
      have := Nat.mul_le_mul_right sz (show j + 1 ≤ i from hlt)
      rw [Nat.add_mul] at this; omega
    · right
      have := Nat.mul_le_mul_right sz (show i + 1 ≤ j from hgt)
      rw [Nat.add_mul] at this; simp; omega

def fillE (sz : Nat) (es : List (List V)) : List (Nat × V) → Option (List (List V))
  | [] => some es
  | (i, v) :: r => bif Nat.beq (cellsOfV v).length sz && cellsB v then
      (if i < es.length then fillE sz (es.set i (cellsOfV v)) r else none) else none

theorem fillE_sound {sz : Nat} : ∀ {ps : List (Nat × V)} {qs : List (Nat × Value)} {es es' : List (List V)} {c : Array Value}, Rparts N ρ I w ps qs → Rcc N ρ I w es c 0 sz → es.length * sz = c.size →
    fillE sz es ps = some es' → ∃ c', Instr.fill (fun i => some (i * sz, sz)) c qs = some c' ∧ Rcc N ρ I w es' c' 0 sz ∧ es'.length * sz = c'.size ∧ es'.length = es.length
  | [], [], es, es', c, _, h1, h2, h => by cases h; exact ⟨c, rfl, h1, h2, rfl⟩
  | [], _ :: _, _, _, _, hp, _, _, _ => by simp [Rparts] at hp
  | _ :: _, [], _, _, _, hp, _, _, _ => by simp [Rparts] at hp
  | (i, v) :: r, (j, x) :: s, es, es', c, hp, h1, h2, h => by
    simp only [Rparts] at hp
    obtain ⟨rfl, hv, hr⟩ := hp
    simp only [fillE] at h
    cases hc : Nat.beq (cellsOfV v).length sz && cellsB v with
    | false => rw [hc] at h; cases h
    | true =>
      rw [hc] at h
      simp only [cond_true] at h
      simp only [Bool.and_eq_true, Nat.beq_eq] at hc
      obtain ⟨k1, k2, k3⟩ := cellsOfV_sound hc.2 hv
      split at h
      · rename_i hi
        have hmul : i * sz + sz ≤ es.length * sz := by
          have := Nat.mul_le_mul_right sz (show i + 1 ≤ es.length from hi)
          rw [Nat.add_mul] at this; omega
        have hsz : (splice c.toList (i * sz) x.cells.toList).length = c.size := by rw [splice_length (by simp; omega)]; simp
        have hf : x.cells.zipIdx.foldl (fun cs (y, j) => cs.setIfInBounds (i * sz + j) y) c = (splice c.toList (i * sz) x.cells.toList).toArray := by
          rw [← Array.foldl_toList, Array.toList_zipIdx]
          have := fold_splice (i * sz) x.cells.toList 0 c (by simp; omega)
          apply Array.toList_inj.1
          simpa using this
        have := Rcc.set h1 hi k1 hc.1 (by omega) (by omega)
        rw [Nat.zero_add] at this
        obtain ⟨c', e1, e2, e3, e4⟩ := fillE_sound hr this (by rw [List.length_set, List.size_toArray, hsz, h2]) h
        refine ⟨c', ?_, e2, e3, by rw [e4, List.length_set]⟩
        simp only [Instr.fill]
        rw [if_neg (by rw [← k2, hc.1]; simp; omega), hf]
        exact e1
      · cases h

/-- A slice of the call's own that is put where it can't be written any more: it goes on by value. -/
def frz (m : Mem) : V → Option (V × Mem)
  | .sl sz n off len => match m[n]? with
    | some (.row _ sz' es) => bif Nat.beq sz sz' && Nat.ble (off + len) es.length then some (.isl sz ((es.drop off).take len), m.set n .dead) else none
    | _ => none
  | v => some (v, m)

def frzL (m : Mem) : List V → Option (List V × Mem)
  | [] => some ([], m)
  | v :: r => match frz m v with
    | some (v', m1) => match frzL m1 r with
      | some (r', m2) => some (v' :: r', m2)
      | none => none
    | none => none

def frzV (m : Mem) : V → Option (V × Mem)
  | .agg l => match frzL m l with
    | some (l', m') => some (.agg l', m')
    | none => none
  | v => frz m v

theorem frz_sound (hr : Rep ρ I m w) {v v' : V} {x : Value} {m' : Mem} (hv : RV m.length ρ I w v x) (h : frz m v = some (v', m')) :
    ∃ I', Rep ρ I' m' w ∧ Step ρ I m w ρ I' m' w ∧ RV m'.length ρ I' w v' x := by
  have triv : v' = v → m' = m → ∃ I', Rep ρ I' m' w ∧ Step ρ I m w ρ I' m' w ∧ RV m'.length ρ I' w v' x := by
    rintro rfl rfl
    exact ⟨I, hr, Step.refl _ _ _ _, hv⟩
  unfold frz at h
  split at h
  · rename_i sz n off len
    split at h
    · rename_i _ ty sz' es hm
      cases hc : Nat.beq sz sz' && Nat.ble (off + len) es.length with
      | false => rw [hc] at h; cases h
      | true =>
        rw [hc] at h
        simp only [cond_true, Option.some.injEq, Prod.mk.injEq] at h
        simp only [Bool.and_eq_true, Nat.beq_eq, Nat.ble_eq] at hc
        obtain ⟨rfl, hb⟩ := hc
        obtain ⟨rfl, rfl⟩ := h
        have hl := live_of hm rfl
        obtain ⟨k1, k2⟩ := hr.freeze hl
        refine ⟨_, k1, k2, ?_⟩
        have hlen : ((es.drop off).take len).length = len := by simp; omega
        obtain ⟨c, g1, g2, g3⟩ := hr.blk _ _ hm
        simp only [RV] at hv ⊢
        obtain ⟨h1, o, cap, rfl, h2, h3, c2, ty2, h4, h5⟩ := hv
        refine ⟨_, cap, by rw [hlen], by rw [hlen]; exact h2, ?_⟩
        rcases h3 with h3 | h3
        · left
          apply List.eq_nil_of_length_eq_zero
          omega
        · right
          refine ⟨_, o, c, ty, (0, 0), rfl, .inr rfl, g1, ?_⟩
          refine Rcc.mk fun i e he => ?_
          rw [List.getElem?_take] at he
          split at he
          · rw [List.getElem?_drop] at he
            obtain ⟨e1, e2⟩ := g3.get _ e he
            refine ⟨e1, ?_⟩
            have := Rc.keep k2.keeps _ _ _ e2
            rwa [h3, Nat.add_assoc, ← Nat.add_mul]
          · cases he
    · cases h
  · cases h; exact triv rfl rfl

theorem frzL_sound : ∀ {l l' : List V} {c : Array Value} {o : Nat} {I : Nat → Prop} {m m' : Mem}, Rep ρ I m w → Rc m.length ρ I w l c o → frzL m l = some (l', m') →
    ∃ I', Rep ρ I' m' w ∧ Step ρ I m w ρ I' m' w ∧ Rc m'.length ρ I' w l' c o ∧ l'.length = l.length
  | [], l', c, o, I, m, m', hr, _, h => by cases h; exact ⟨I, hr, Step.refl _ _ _ _, by simp [Rc], rfl⟩
  | v :: r, l', c, o, I, m, m', hr, hl, h => by
    simp only [frzL] at h
    split at h
    · rename_i v' m1 h1
      split at h
      · rename_i r' m2 h2
        cases h
        simp only [Rc] at hl
        obtain ⟨⟨x, hx, ho, hv⟩, hrr⟩ := hl
        obtain ⟨I1, a1, a2, a3⟩ := frz_sound hr hv h1
        obtain ⟨I2, b1, b2, b3, b4⟩ := frzL_sound a1 (Rc.keep a2.keeps _ _ _ hrr) h2
        exact ⟨I2, b1, a2.trans b2, by simp only [Rc]; exact ⟨⟨x, hx, ho, RV.keep b2.keeps _ _ a3⟩, b3⟩, by simp [b4]⟩
      · cases h
    · cases h

theorem frzV_sound (hr : Rep ρ I m w) {v v' : V} {x : Value} {m' : Mem} (hv : RV m.length ρ I w v x) (h : frzV m v = some (v', m')) :
    ∃ I', Rep ρ I' m' w ∧ Step ρ I m w ρ I' m' w ∧ RV m'.length ρ I' w v' x := by
  unfold frzV at h
  split at h
  · split at h
    · rename_i l l' m1 h1
      cases h
      simp only [RV] at hv
      obtain ⟨c, rfl, h2, h3⟩ := hv
      obtain ⟨I', a1, a2, a3, a4⟩ := frzL_sound hr h3 h1
      exact ⟨I', a1, a2, by simp only [RV]; exact ⟨c, rfl, by omega, a3⟩⟩
    · cases h
  · exact frz_sound hr hv h

def frzP (m : Mem) : List (Nat × V) → Option (List (Nat × V) × Mem)
  | [] => some ([], m)
  | (i, v) :: r => match frzV m v with
    | some (v', m1) => match frzP m1 r with
      | some (r', m2) => some ((i, v') :: r', m2)
      | none => none
    | none => none

theorem Rparts.keep {N' : Nat} {ρ' : Pl} {I' : Nat → Prop} {w' : World} (hk : Keeps N ρ I w N' ρ' I' w') : ∀ {ps : List (Nat × V)} {qs : List (Nat × Value)}, Rparts N ρ I w ps qs → Rparts N' ρ' I' w' ps qs
  | [], [], _ => by simp [Rparts]
  | [], _ :: _, h => by simp [Rparts] at h
  | _ :: _, [], h => by simp [Rparts] at h
  | (i, v) :: r, (j, x) :: s, h => by
    simp only [Rparts] at h ⊢
    exact ⟨h.1, RV.keep hk _ _ h.2.1, Rparts.keep hk h.2.2⟩

theorem frzP_sound : ∀ {ps ps' : List (Nat × V)} {qs : List (Nat × Value)} {I : Nat → Prop} {m m' : Mem}, Rep ρ I m w → Rparts m.length ρ I w ps qs → frzP m ps = some (ps', m') →
    ∃ I', Rep ρ I' m' w ∧ Step ρ I m w ρ I' m' w ∧ Rparts m'.length ρ I' w ps' qs
  | [], ps', [], I, m, m', hr, _, h => by cases h; exact ⟨I, hr, Step.refl _ _ _ _, by simp [Rparts]⟩
  | [], _, _ :: _, _, _, _, _, hp, _ => by simp [Rparts] at hp
  | _ :: _, _, [], _, _, _, _, hp, _ => by simp [Rparts] at hp
  | (i, v) :: r, ps', (j, x) :: s, I, m, m', hr, hp, h => by
    simp only [frzP] at h
    split at h
    · rename_i v' m1 h1
      split at h
      · rename_i r' m2 h2
        cases h
        simp only [Rparts] at hp
        obtain ⟨hij, hv, hrr⟩ := hp
        obtain ⟨I1, a1, a2, a3⟩ := frzV_sound hr hv h1
        obtain ⟨I2, b1, b2, b3⟩ := frzP_sound a1 (Rparts.keep a2.keeps hrr) h2
        exact ⟨I2, b1, a2.trans b2, by simp only [Rparts]; exact ⟨hij, RV.keep b2.keeps _ _ a3, b3⟩⟩
      · cases h
    · cases h

def bsliceV (P : Program) (t : TypeId) (len : Nat) (ps : List (Nat × V)) (m : Mem) : Option (V × Mem) :=
  match P.underlying t with
  | some (.slice e) => match zeroE P e with
    | some (z, sz, _) => bif Nat.ble (len * sz) 16777216 then match frzP m ps with
        | some (ps', m1) => match fillE sz (List.replicate len z) ps' with
          | some es => some (.sl sz m1.length 0 len, m1 ++ [.row e sz es])
          | none => none
        | none => none
      else none
    | none => none
  | _ => none

theorem bsliceV_sound (hr : Rep ρ I m w) {t : TypeId} {len : Nat} {ps : List (Nat × V)} {qs : Array (Nat × Value)} {v : V} {m' : Mem} (hp : Rparts m.length ρ I w ps qs.toList)
    (h : bsliceV P t len ps m = some (v, m')) : Came P ρ I m w (Instr.buildSlice t len qs) v m' := by
  unfold bsliceV at h
  split at h
  · rename_i e hu
    split at h
    · rename_i z sz by_ hz
      cases hc : Nat.ble (len * sz) 16777216 with
      | false => rw [hc] at h; cases h
      | true =>
        rw [hc] at h
        simp only [cond_true] at h
        rw [Nat.ble_eq] at hc
        split at h
        · rename_i ps' m1 h1
          split at h
          · rename_i es h2
            cases h
            obtain ⟨I1, a1, a2, a3⟩ := frzP_sound hr hp h1
            obtain ⟨i, zv, z1, z2, z3, z4, z5, z6, z7, z8⟩ := zeroE_sound hz m1.length ρ I1 w
            have hrow : Rcc m1.length ρ I1 w (List.replicate len z) ((Array.range (len * sz)).map (zv.cells[· % zv.cells.size]!)) 0 sz := Rcc.mk fun k u hu => by
              rw [List.getElem?_replicate] at hu
              split at hu
              · rename_i hk
                cases hu
                refine ⟨z7, Rc.mk fun j y hy => ?_⟩
                have hj := (List.getElem?_eq_some_iff.1 hy).1
                obtain ⟨q, q1, q2⟩ := z6.get j y hy
                refine ⟨q, ?_, q2⟩
                have hlt : 0 + k * sz + j < len * sz := by
                  have := Nat.mul_le_mul_right sz (show k + 1 ≤ len from hk)
                  rw [Nat.add_mul] at this; omega
                rw [Array.getElem?_map, Array.getElem?_range, if_pos hlt]
                simp only [Option.map_some, z8, Nat.zero_add] at q1 ⊢
                rw [Nat.mul_comm, Nat.mul_add_mod, Nat.mod_eq_of_lt (by omega)]
                congr 1
                rw [getElem!_def, q1]
              · cases hu
            obtain ⟨c', e1, e2, e3, e4⟩ := fillE_sound a3 hrow (by simp) h2
            obtain ⟨k1, k2⟩ := a1.alloc (.cells c' e) (.row e sz es) (fun hk => ⟨c', heap_alloc_new w _, by simp; omega, Rcc.keep hk _ _ _ _ e2⟩)
            have hz0 : len * sz = 0 → (Array.range (len * sz)).map ((#[] : Array Value)[· % (#[] : Array Value).size]!) = (Array.range (len * sz)).map (zv.cells[· % zv.cells.size]!) := by
              intro e; rw [e]; apply Array.ext <;> simp
            refine ⟨.slice (some ⟨w.heap.size, 0, none⟩) len len, w.alloc (.cells c' e), _, _, ?_, k1, a2.trans k2, ?_⟩
            · have hle : ¬ (len * sz > 2 ^ 24) := by have : (2:Nat) ^ 24 = 16777216 := by decide
                                                     omega
              by_cases h0 : len * sz = 0
              · simp only [Instr.buildSlice, Sem.run_bind, run_underlying hu, Result.andThen_ok, run_sizeOf' z1, z3, if_neg hle, Sem.run_pure, if_pos h0]
                have hz0' := hz0 h0
                simp only [Pure.pure, Sem.run] at *
                rw [hz0', e1]
                rfl
              · simp only [Instr.buildSlice, Sem.run_bind, run_underlying hu, Result.andThen_ok, run_sizeOf' z1, z3, if_neg hle, Sem.run_pure, if_neg h0, zeroValue, typeInfo, run_program, z1, z2]
                rw [e1]
                rfl
            · simp only [RV]
              have hes : es.length = len := by rw [e4]; simp
              refine ⟨by simp, 0, len, by rw [Pl.put_self], Nat.le_refl _, .inr (by rw [Pl.put_self]; simp), c', e, by rw [Pl.put_self]; exact heap_alloc_new w _, .inr ?_⟩
              rw [← hes, Nat.zero_add]; exact Nat.le_of_eq e3
          · cases h
        · cases h
    · cases h
  · cases h
end
end Go.Proofs.Ytnhejkfbnjopjaa.Ab
