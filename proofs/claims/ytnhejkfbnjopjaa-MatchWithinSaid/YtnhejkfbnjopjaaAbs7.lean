/- The evaluator's cuts, appends, lengths. No condition. -/
import Derived.Test.YtnhejkfbnjopjaaAbs6
namespace Go.Proofs.Ytnhejkfbnjopjaa.Ab
open Go
set_option linter.unusedSimpArgs false
set_option linter.unusedVariables false

section
variable {P : Program} {N : Nat} {ρ : Pl} {I : Nat → Prop} {w : World} {m : Mem}

/-- A bound of a cut: given or not. -/
def bndV (d : Nat) : Option V → Option Int
  | none => some d
  | some (.int _ i) => some i
  | some _ => none

def Rbnd (N : Nat) (ρ : Pl) (I : Nat → Prop) (w : World) : Option V → Option Value → Prop
  | none, none => True
  | some v, some x => RV N ρ I w v x
  | _, _ => False

def sliceV (P : Program) (t : TypeId) (x : V) (lo hi : Option V) : Option V :=
  match x with
  | .sl sz n off len => match P.underlying t with
    | some (.slice e) => match P.info? e with
      | some i => bif Nat.beq sz i.size then (match bndV 0 lo, bndV len hi with
          | some l, some h => if 0 ≤ l ∧ l ≤ h ∧ h ≤ len then some (.sl sz n (off + l.toNat) (h.toNat - l.toNat)) else none
          | _, _ => none) else none
      | none => none
    | _ => none
  | .isl sz es => match P.underlying t with
    | some (.slice e) => match P.info? e with
      | some i => bif Nat.beq sz i.size then (match bndV 0 lo, bndV es.length hi with
          | some l, some h => if 0 ≤ l ∧ l ≤ h ∧ h ≤ es.length then some (.isl sz ((es.drop l.toNat).take (h.toNat - l.toNat))) else none
          | _, _ => none) else none
      | none => none
    | _ => none
  | .nils => match P.underlying t with
    | some (.slice e) => match P.info? e with
      | some _ => (match bndV 0 lo, bndV 0 hi with
          | some l, some h => if 0 = l ∧ 0 = h then some .nils else none
          | _, _ => none)
      | none => none
    | _ => none
  | .str s => match P.underlying t with
    | some .string => (match bndV 0 lo, bndV s.size hi with
          | some l, some h => if 0 ≤ l ∧ l ≤ h ∧ h ≤ s.size then some (.str (s.extract l.toNat h.toNat)) else none
          | _, _ => none)
    | _ => none
  | _ => none

theorem run_bounds {lo hi : Option V} {a b : Option Value} {len cap : Nat} {l h : Int} (isS : Bool) (ha : Rbnd N ρ I w lo a) (hb : Rbnd N ρ I w hi b) (h1 : bndV 0 lo = some l) (h2 : bndV len hi = some h)
    (h0 : 0 ≤ l) (hlh : l ≤ h) (hl : h ≤ len) (hc : len ≤ cap) : (Instr.sliceBounds isS len cap a b none).run P w = .ok (l.toNat, h.toNat, cap) w := by
  have ra : ∀ y, (l : Int) ≤ (y : Nat) → ∀ cd, (match a with | some v => Instr.sliceBound v y cd | none => pure 0 : Sem Nat).run P w = .ok l.toNat w := by
    intro y hy cd
    cases lo with
    | none =>
      cases a with
      | none => simp only [bndV, Option.some.injEq] at h1; subst h1; rfl
      | some _ => simp [Rbnd] at ha
    | some v =>
      cases a with
      | none => simp [Rbnd] at ha
      | some x =>
        simp only [Rbnd] at ha
        cases v <;> simp [bndV] at h1
        subst h1
        simp only [RV] at ha
        subst ha
        simp [Instr.sliceBound, asIntOf, h0, hy]
  have rb : ∀ cd, (match b with | some v => Instr.sliceBound v cap cd | none => pure len : Sem Nat).run P w = .ok h.toNat w := by
    intro cd
    cases hi with
    | none =>
      cases b with
      | none => simp only [bndV, Option.some.injEq] at h2; subst h2; simp
      | some _ => simp [Rbnd] at hb
    | some v =>
      cases b with
      | none => simp [Rbnd] at hb
      | some x =>
        simp only [Rbnd] at hb
        cases v <;> simp [bndV] at h2
        subst h2
        simp only [RV] at hb
        subst hb
        rename_i q
        have : (0 : Int) ≤ q ∧ q ≤ cap := by omega
        simp [Instr.sliceBound, asIntOf, this]
  have ra' := ra h.toNat (by omega) .sliceB
  have rb' := rb (if isS then .sliceAcap else .sliceAlen)
  unfold Instr.sliceBounds
  cases b <;> cases a <;> simp_all

theorem sliceV_sound {t : TypeId} {x v : V} {lo hi : Option V} {y : Value} {a b : Option Value} (hx : RV N ρ I w x y) (ha : Rbnd N ρ I w lo a) (hb : Rbnd N ρ I w hi b) (h : sliceV P t x lo hi = some v) :
    ∃ z, (Instr.sliceAt t y a b none).run P w = .ok z w ∧ RV N ρ I w v z := by
  unfold sliceV at h
  split at h
  · rename_i sz n off len
    split at h
    · rename_i e hu
      split at h
      · rename_i i hi'
        cases hs : Nat.beq sz i.size with
        | false => rw [hs] at h; cases h
        | true =>
          rw [hs] at h
          have hs' := Nat.eq_of_beq_eq_true hs
          simp only [cond_true] at h
          split at h
          · rename_i l hh h1 h2
            split at h
            · rename_i hb3
              cases h
              simp only [RV] at hx ⊢
              obtain ⟨g1, o, cap, rfl, g2, g3, c, ty, g4, g5⟩ := hx
              have hr := run_bounds (P := P) true ha hb h1 h2 hb3.1 hb3.2.1 hb3.2.2 g2
              refine ⟨_, by simp [Instr.sliceAt, run_underlying hu, Instr.slice, hr, run_sizeOf' hi']; rfl, g1, ?_⟩
              by_cases hcl : cap = l.toNat
              · refine ⟨o, 0, ?_, by omega, .inl rfl, c, ty, g4, .inl rfl⟩
                rw [if_pos hcl, hcl, Nat.sub_self]
              · refine ⟨o + l.toNat * sz, cap - l.toNat, ?_, by omega, .inr ?_, c, ty, g4, .inr ?_⟩
                · rw [if_neg hcl, ← hs']; simp [Addr.add_lit]
                · rcases g3 with g3 | g3
                  · omega
                  · rw [g3, Nat.add_mul, Nat.add_assoc]
                · rcases g5 with g5 | g5
                  · omega
                  · have : l.toNat * sz + (cap - l.toNat) * sz = cap * sz := by rw [← Nat.add_mul]; congr 1; omega
                    omega
            · cases h
          · cases h
      · cases h
    · cases h
  · rename_i sz es
    split at h
    · rename_i e hu
      split at h
      · rename_i i hi'
        cases hs : Nat.beq sz i.size with
        | false => rw [hs] at h; cases h
        | true =>
          rw [hs] at h
          have hs' := Nat.eq_of_beq_eq_true hs
          simp only [cond_true] at h
          split at h
          · rename_i l hh h1 h2
            split at h
            · rename_i hb3
              cases h
              simp only [RV] at hx ⊢
              obtain ⟨ad, cap, rfl, g2, g3⟩ := hx
              have hr := run_bounds (P := P) true ha hb h1 h2 hb3.1 hb3.2.1 hb3.2.2 g2
              have hlen : ((es.drop l.toNat).take (hh.toNat - l.toNat)).length = hh.toNat - l.toNat := by simp; omega
              refine ⟨_, by simp [Instr.sliceAt, run_underlying hu, Instr.slice, hr, run_sizeOf' hi']; rfl, ?_⟩
              refine ⟨_, _, by rw [hlen], by rw [hlen]; omega, ?_⟩
              rcases g3 with rfl | ⟨b', o, c, ty, fr, rfl, k1, k2, k3⟩
              · left; simp
              · by_cases hcl : cap = l.toNat
                · left
                  apply List.eq_nil_of_length_eq_zero
                  omega
                · right
                  refine ⟨b', o + l.toNat * sz, c, ty, fr, by rw [if_neg hcl, ← hs']; simp [Addr.add_lit], k1, k2, Rcc.mk fun j u hu => ?_⟩
                  rw [List.getElem?_take] at hu
                  split at hu
                  · rw [List.getElem?_drop] at hu
                    obtain ⟨u1, u2⟩ := k3.get _ u hu
                    exact ⟨u1, by rwa [Nat.add_mul, ← Nat.add_assoc] at u2⟩
                  · cases hu
            · cases h
          · cases h
      · cases h
    · cases h
  · split at h
    · rename_i e hu
      split at h
      · rename_i i hi'
        split at h
        · rename_i l hh h1 h2
          split at h
          · rename_i hb3
            cases h
            simp only [RV] at hx ⊢
            subst hx
            obtain ⟨rfl, rfl⟩ := hb3
            have hr := run_bounds (P := P) (cap := 0) true ha hb h1 h2 (by simp) (by simp) (by simp) (by simp)
            exact ⟨_, by simp [Instr.sliceAt, run_underlying hu, Instr.slice, hr, run_sizeOf' hi'], rfl⟩
          · cases h
        · cases h
      · cases h
    · cases h
  · split at h
    · rename_i hu
      split at h
      · rename_i l hh h1 h2
        split at h
        · rename_i hb3
          cases h
          simp only [RV] at hx ⊢
          subst hx
          have hr := run_bounds (P := P) false ha hb h1 h2 hb3.1 hb3.2.1 hb3.2.2 (Nat.le_refl _)
          exact ⟨_, by simp [Instr.sliceAt, run_underlying hu, Instr.slice, hr], rfl⟩
        · cases h
      · cases h
    · cases h
  · cases h

/-- What a slice holds. -/
def contV (m : Mem) (sz : Nat) : V → Option (List (List V))
  | .nils => some []
  | .isl sz' es => bif Nat.beq sz sz' then some es else none
  | .sl sz' n off len => match m[n]? with
    | some (.row _ sz'' es) => bif Nat.beq sz sz' && (Nat.beq sz sz'' && Nat.ble (off + len) es.length) then some ((es.drop off).take len) else none
    | _ => none
  | _ => none

/-- A slice's cells, as an append reads them. -/
structure Cont (P : Program) (N : Nat) (ρ : Pl) (I : Nat → Prop) (w : World) (sz : Nat) (x : Value) (es : List (List V)) (news : List Value) : Prop where
  isS : ∃ a cap, x = .slice a es.length cap
  len : (Builtin.lenOf x).run P w = .ok es.length w
  first : ∀ w', Same w w' → (Builtin.firstCells sz es.length x).run P w' = .ok news.toArray w'
  size : news.length = es.length * sz
  rel : Rcc N ρ I w es news.toArray 0 sz
  one : ∀ v ∈ es, v.all oneV = true → True

theorem cells_of_region {b o sz : Nat} {c : Array Value} {ty : TypeId} {fr : Nat × Nat} {es : List (List V)} (hg : w.heap[b]? = some (.cells c ty fr)) (hr : Rcc N ρ I w es c o sz) (hb : es = [] ∨ o + es.length * sz ≤ c.size) :
    ∃ news : List Value, news = (c.toList.drop o).take (es.length * sz) ∧ news.length = es.length * sz ∧ Rcc N ρ I w es news.toArray 0 sz ∧ ∀ w', Same w w' → (loadCells ⟨b, o, none⟩ (es.length * sz)).run P w' = .ok news.toArray w' := by
  refine ⟨_, rfl, ?_, ?_, ?_⟩
  · rcases hb with rfl | hb
    · simp
    · simp; omega
  · refine Rcc.mk fun i e he => ?_
    obtain ⟨h1, h2⟩ := hr.get i e he
    have hi := (List.getElem?_eq_some_iff.1 he).1
    refine ⟨h1, Rc.mk fun j v hv => ?_⟩
    have hj := (List.getElem?_eq_some_iff.1 hv).1
    obtain ⟨x, k1, k2⟩ := h2.get j v hv
    refine ⟨x, ?_, k2⟩
    have := Nat.mul_le_mul_right sz (show i + 1 ≤ es.length from hi)
    rw [Nat.add_mul] at this
    rw [List.getElem?_toArray, List.getElem?_take, if_pos (by omega), List.getElem?_drop, ← k1]
    simp; congr 1; omega
  · intro w' hs
    have hlen : ((c.toList.drop o).take (es.length * sz)).length = es.length * sz := by
      rcases hb with rfl | hb
      · simp
      · simp; omega
    have := run_loadCells_list (P := P) w' ⟨b, o, none⟩ ((c.toList.drop o).take (es.length * sz)) (fun j u hu => by
      rw [Addr.add_lit, cell_of_row w' b _ c ty fr (by rw [hs.heap]; exact hg)]
      rw [List.getElem?_take] at hu
      split at hu
      · rw [List.getElem?_drop] at hu; simpa using hu
      · cases hu)
    rwa [hlen] at this

theorem contV_sound (hr : Rep ρ I m w) {sz : Nat} {v : V} {x : Value} {es : List (List V)} (hsz : 0 < sz) (hv : RV m.length ρ I w v x) (h : contV m sz v = some es) : ∃ news, Cont P m.length ρ I w sz x es news := by
  unfold contV at h
  split at h
  · cases h
    simp only [RV] at hv
    subst hv
    exact ⟨[], ⟨⟨none, 0, rfl⟩, rfl, fun w' _ => rfl, by simp, by simp [Rcc], fun _ _ _ => trivial⟩⟩
  · rename_i sz' es'
    cases hs : Nat.beq sz sz' with
    | false => rw [hs] at h; cases h
    | true =>
      rw [hs] at h
      have hs' := Nat.eq_of_beq_eq_true hs
      subst hs'
      simp only [cond_true, Option.some.injEq] at h
      subst h
      simp only [RV] at hv
      obtain ⟨a, cap, rfl, h2, h3⟩ := hv
      rcases h3 with rfl | ⟨b, o, c, ty, fr, rfl, h4, h5, h6⟩
      · refine ⟨[], ⟨⟨a, cap, rfl⟩, rfl, fun w' _ => ?_, by simp, by simp [Rcc], fun _ _ _ => trivial⟩⟩
        cases a <;> simp [Builtin.firstCells, loadCells, loadCellsFrom]
      · have hb : es' = [] ∨ o + es'.length * sz ≤ c.size := by
          by_cases h0 : es' = []
          · exact .inl h0
          · right
            have hlt : es'.length - 1 < es'.length := by
              have : 0 < es'.length := List.length_pos_iff.2 h0
              omega
            obtain ⟨q1, q2⟩ := h6.get (es'.length - 1) _ (List.getElem?_eq_getElem hlt)
            rcases q2.bound with hq | hq
            · rw [hq] at q1; simp at q1; omega
            · rw [q1] at hq
              have : (es'.length - 1) * sz + sz = es'.length * sz := by
                rw [Nat.sub_mul, Nat.one_mul]
                have := Nat.mul_le_mul_right sz (show 1 ≤ es'.length by omega)
                omega
              omega
        obtain ⟨news, _, n1, n2, n3⟩ := cells_of_region (P := P) h5 h6 hb
        exact ⟨news, ⟨⟨_, cap, rfl⟩, rfl, fun w' hs => by simpa [Builtin.firstCells] using n3 w' hs, n1, n2, fun _ _ _ => trivial⟩⟩
  · rename_i sz' n off len
    split at h
    · rename_i _ ty sz'' es' hm
      cases hc : Nat.beq sz sz' && (Nat.beq sz sz'' && Nat.ble (off + len) es'.length) with
      | false => rw [hc] at h; cases h
      | true =>
        rw [hc] at h
        simp only [cond_true, Option.some.injEq] at h
        simp only [Bool.and_eq_true, Nat.beq_eq, Nat.ble_eq] at hc
        obtain ⟨rfl, rfl, hb⟩ := hc
        subst h
        obtain ⟨c, g1, g2, g3⟩ := hr.blk _ _ hm
        simp only [RV] at hv
        obtain ⟨h1, o, cap, rfl, h2, h3, c2, ty2, h4, h5⟩ := hv
        have hlen : ((es'.drop off).take len).length = len := by simp; omega
        rcases h3 with h3 | h3
        · have hl0 : len = 0 := by omega
          subst hl0
          refine ⟨[], ⟨⟨_, cap, rfl⟩, by simp [Builtin.lenOf], fun w' _ => ?_, by simp, by simp [Rcc], fun _ _ _ => trivial⟩⟩
          simp [Builtin.firstCells, loadCells, loadCellsFrom]
        · have hsub : Rcc m.length ρ I w ((es'.drop off).take len) c o sz := Rcc.mk fun j u hu => by
            rw [List.getElem?_take] at hu
            split at hu
            · rw [List.getElem?_drop] at hu
              obtain ⟨u1, u2⟩ := g3.get _ u hu
              refine ⟨u1, ?_⟩
              rwa [h3, Nat.add_assoc, ← Nat.add_mul]
            · cases hu
          have hbd : (ρ n).2 + off * sz + len * sz ≤ c.size := by
            have := Nat.mul_le_mul_right sz hb
            rw [Nat.add_mul] at this; omega
          obtain ⟨news, _, n1, n2, n3⟩ := cells_of_region (P := P) g1 hsub (.inr (by rw [hlen, h3]; exact hbd))
          refine ⟨news, ⟨⟨_, cap, by rw [hlen]⟩, by simp only [Builtin.lenOf, hlen]; rfl, fun w' hs => ?_, n1, n2, fun _ _ _ => trivial⟩⟩
          have := n3 w' hs
          simpa [Builtin.firstCells] using this
    · cases h
  · cases h

def lenV (P : Program) (m : Mem) (t : TypeId) : V → Option V
  | .nils => match P.underlying t with | some (.slice _) => some (.int .i64 0) | _ => none
  | .sl _ _ _ len => match P.underlying t with | some (.slice _) => some (.int .i64 len) | _ => none
  | .isl _ es => match P.underlying t with | some (.slice _) => some (.int .i64 es.length) | _ => none
  | .str s => match P.underlying t with | some .string => some (.int .i64 s.size) | _ => none
  | .nilm => match P.underlying t with | some (.map _ _) => some (.int .i64 0) | _ => none
  | .mp n => match P.underlying t with
    | some (.map _ _) => match m[n]? with
      | some (.map es) => some (.int .i64 es.length)
      | _ => none
    | _ => none
  | _ => none

theorem Re.length : ∀ {l : List (V × V)} {es : List MapEntry}, Re N ρ I w l es → l.length = es.length
  | [], [], _ => rfl
  | [], _ :: _, h => by simp [Re] at h
  | _ :: _, [], h => by simp [Re] at h
  | (_, _) :: r, _ :: s, h => by simp only [Re] at h; simp [Re.length h.2.2]

theorem lenV_sound (hr : Rep ρ I m w) {t : TypeId} {x v : V} {y : Value} (hx : RV m.length ρ I w x y) (h : lenV P m t x = some v) (ts : Array TypeId) (ht : ts[0]? = some t) (ty : TypeId) (xs : Array Value) (hxs : xs[0]? = some y) :
    ∃ z, (Builtin.len_ ts ty xs).run P w = .ok z w ∧ RV m.length ρ I w v z := by
  unfold lenV at h
  split at h
  · split at h <;> cases h
    rename_i e hu
    simp only [RV] at hx; subst hx
    exact ⟨_, by simp [Builtin.len_, ht, hxs, run_underlying hu, goInt], rfl⟩
  · split at h <;> cases h
    rename_i e hu
    simp only [RV] at hx
    obtain ⟨_, _, _, rfl, _⟩ := hx
    exact ⟨_, by simp [Builtin.len_, ht, hxs, run_underlying hu, goInt], rfl⟩
  · split at h <;> cases h
    rename_i e hu
    simp only [RV] at hx
    obtain ⟨_, _, rfl, _⟩ := hx
    exact ⟨_, by simp [Builtin.len_, ht, hxs, run_underlying hu, goInt], rfl⟩
  · split at h <;> cases h
    rename_i hu
    simp only [RV] at hx; subst hx
    exact ⟨_, by simp [Builtin.len_, ht, hxs, run_underlying hu, goInt], rfl⟩
  · split at h <;> cases h
    rename_i e hu
    simp only [RV] at hx; subst hx
    exact ⟨_, by simp [Builtin.len_, ht, hxs, run_underlying hu, goInt], rfl⟩
  · split at h
    · rename_i k e hu
      split at h
      · rename_i _ es hm
        cases h
        simp only [RV] at hx
        obtain ⟨_, rfl⟩ := hx
        obtain ⟨_, ents, clock, g1, g2⟩ := hr.blk _ _ hm
        refine ⟨.int .i64 es.length, ?_, rfl⟩
        have hl := g2.length
        simp only [Array.length_toList] at hl
        simp [Builtin.len_, ht, hxs, run_underlying hu, goInt, getObj, Sem.run, g1, hl]
      · cases h
    · cases h
  · cases h
end
end Go.Proofs.Ytnhejkfbnjopjaa.Ab
