/- The evaluator's loads, stores and new variables, and that they answer as the machine does. No condition. -/
import Derived.Test.YtnhejkfbnjopjaaAbs3
namespace Go.Proofs.Ytnhejkfbnjopjaa.Ab
open Go
set_option linter.unusedSimpArgs false
set_option linter.unusedVariables false

section
variable {P : Program} {N : Nat} {ρ : Pl} {I : Nat → Prop} {w : World} {m : Mem}

/-- What an operation has come to: a value and memory. -/
def Came (P : Program) (ρ : Pl) (I : Nat → Prop) (m : Mem) (w : World) (s : Sem Value) (v : V) (m' : Mem) : Prop :=
  ∃ x w' ρ' I', s.run P w = .ok x w' ∧ Rep ρ' I' m' w' ∧ Step ρ I m w ρ' I' m' w' ∧ RV m'.length ρ' I' w' v x

def CameU (P : Program) (ρ : Pl) (I : Nat → Prop) (m : Mem) (w : World) (s : Sem Unit) (m' : Mem) : Prop :=
  ∃ w' ρ' I', s.run P w = .ok () w' ∧ Rep ρ' I' m' w' ∧ Step ρ I m w ρ' I' m' w'

theorem Came.pure {s : Sem Value} {v : V} (hr : Rep ρ I m w) (h : ∃ x, s.run P w = .ok x w ∧ RV m.length ρ I w v x) : Came P ρ I m w s v m := by
  obtain ⟨x, h1, h2⟩ := h
  exact ⟨x, w, ρ, I, h1, hr, Step.refl _ _ _ _, h2⟩

def cellsAt (m : Mem) : V → Option (List V × Nat)
  | .ptr n off => match m[n]? with
    | some (.var _ l) => some (l, off)
    | _ => none
  | .ep sz n i off => match m[n]? with
    | some (.row _ sz' es) => if sz = sz' then (match es[i]? with
      | some e => some (e, off)
      | none => none) else none
    | _ => none
  | .ip l => some (l, 0)
  | _ => none

theorem cellsAt_sound (hr : Rep ρ I m w) {p : V} {x : Value} {l : List V} {off : Nat} (hp : RV m.length ρ I w p x) (h : cellsAt m p = some (l, off)) :
    ∃ b o c ty fr, x = .pointer (some ⟨b, o + off, none⟩) ∧ w.heap[b]? = some (.cells c ty fr) ∧ Rc m.length ρ I w l c o := by
  unfold cellsAt at h
  split at h
  · split at h
    · rename_i ty l' hm
      cases h
      obtain ⟨h0, c, h1, h2, h3⟩ := hr.blk _ _ hm
      simp only [RV] at hp
      exact ⟨_, _, c, ty, (0, 0), hp.2, h1, by rw [h0]; exact h3⟩
    · cases h
  · split at h
    · rename_i sz n i off' _ ty sz' es hm
      split at h
      · rename_i hs
        subst hs
        split at h
        · rename_i e he
          cases h
          obtain ⟨c, h1, h2, h3⟩ := hr.blk _ _ hm
          simp only [RV] at hp
          exact ⟨_, (ρ n).2 + i * sz, c, ty, (0, 0), by rw [hp.2, Nat.add_assoc], h1, (h3.get i _ he).2⟩
        · cases h
      · cases h
    · cases h
  · rename_i l'
    cases h
    simp only [RV] at hp
    obtain ⟨b, o, c, ty, fr, h1, h2, h3, h4⟩ := hp
    exact ⟨b, o, c, ty, fr, by simpa using h1, h3, h4⟩
  · cases h

theorem cell_at {b : Nat} {c : Array Value} {ty : TypeId} {fr : Nat × Nat} (h : w.heap[b]? = some (.cells c ty fr)) (i : Nat) : w.cell? ⟨b, i, none⟩ = c[i]? :=
  cell_of_row w b i c ty fr h

theorem run_load_at {b : Nat} {c : Array Value} {ty : TypeId} {fr : Nat × Nat} (h : w.heap[b]? = some (.cells c ty fr)) {i : Nat} {x : Value} (hx : c[i]? = some x) :
    (load ⟨b, i, none⟩).run P w = .ok x w := by
  rw [run_load, cell_at h, hx]

theorem loadVar_sound {b o off : Nat} {c : Array Value} {ty t : TypeId} {fr : Nat × Nat} {l : List V} {v : V} (hb : w.heap[b]? = some (.cells c ty fr)) (hl : Rc N ρ I w l c o)
    (h : partV P t l off = some v) : ∃ x, (loadVar t ⟨b, o + off, none⟩).run P w = .ok x w ∧ RV N ρ I w v x := by
  unfold partV at h
  cases ha : isAggT P t with
  | true =>
    rw [ha] at h
    simp only [cond_true] at h
    split at h
    · rename_i i hi
      split at h
      · rename_i hbd
        cases h
        have hlen : ((c.toList.drop (o + off)).take i.size).length = i.size := by
          rcases hl.bound with h0 | h0
          · subst h0; simp at hbd; simp [hbd.2]
          · simp; omega
        have hcells := run_loadCells_list (P := P) w ⟨b, o + off, none⟩ ((c.toList.drop (o + off)).take i.size) (fun j u hu => by
          rw [Addr.add_lit, cell_at hb]
          rw [List.getElem?_take] at hu
          split at hu
          · rw [List.getElem?_drop] at hu; simpa using hu
          · cases hu)
        rw [hlen] at hcells
        refine ⟨.agg ((c.toList.drop (o + off)).take i.size).toArray, by simp [loadVar, run_isAgg_true ha, sizeOf, typeInfo, hi, hcells], ?_⟩
        simp only [RV]
        refine ⟨_, rfl, by rw [List.size_toArray, hlen]; simp; omega, Rc.mk fun j u hu => ?_⟩
        have hj : j < i.size := by
          have := (List.getElem?_eq_some_iff.1 hu).1
          simp at this; omega
        rw [List.getElem?_take, if_pos hj, List.getElem?_drop] at hu
        obtain ⟨y, h1, h2⟩ := hl.get _ u hu
        refine ⟨y, ?_, h2⟩
        rw [Nat.zero_add, List.getElem?_toArray, List.getElem?_take, if_pos hj, List.getElem?_drop, ← h1]
        simp [Nat.add_assoc]
      · cases h
    · cases h
  | false =>
    rw [ha] at h
    simp only [cond_false] at h
    split at h
    · rename_i d hd
      obtain ⟨x, h1, _, h2⟩ := hl.get off v h
      exact ⟨x, by simp [loadVar, run_isAgg_false hd ha]; rw [cell_at hb, h1], h2⟩
    · cases h

def loadV (P : Program) (m : Mem) (t : TypeId) (p : V) : Option V :=
  match cellsAt m p with
  | some (l, off) => partV P t l off
  | none => none

theorem loadV_sound (hr : Rep ρ I m w) {t : TypeId} {p v : V} {x : Value} (hp : RV m.length ρ I w p x) (h : loadV P m t p = some v) :
    ∃ y, (Instr.loadAt t x).run P w = .ok y w ∧ RV m.length ρ I w v y := by
  unfold loadV at h
  split at h
  · rename_i l off hc
    obtain ⟨b, o, c, ty, fr, h1, h2, h3⟩ := cellsAt_sound hr hp hc
    obtain ⟨y, h4, h5⟩ := loadVar_sound h2 h3 h
    exact ⟨y, by simp [Instr.loadAt, Instr.sureAddr, h1, h4], h5⟩
  · cases h

def oneV : V → Bool
  | .agg _ => false
  | .tup _ => false
  | .unk => false
  | _ => true

theorem oneV_sound {v : V} {x : Value} (h : oneV v = true) (hx : RV N ρ I w v x) : x.oneCell' = true ∧ x.cells = #[x] := by
  cases v <;> simp [oneV] at h <;> simp only [RV] at hx
  case ptr => obtain ⟨_, rfl⟩ := hx; exact ⟨rfl, rfl⟩
  case ep => obtain ⟨_, rfl⟩ := hx; exact ⟨rfl, rfl⟩
  case ip => obtain ⟨_, _, _, _, _, rfl, _⟩ := hx; exact ⟨rfl, rfl⟩
  case sl => obtain ⟨_, _, _, rfl, _⟩ := hx; exact ⟨rfl, rfl⟩
  case isl => obtain ⟨_, _, rfl, _⟩ := hx; exact ⟨rfl, rfl⟩
  case mp => obtain ⟨_, rfl⟩ := hx; exact ⟨rfl, rfl⟩
  case fn => obtain ⟨_, _, rfl, _⟩ := hx; exact ⟨rfl, rfl⟩
  case ifc => obtain ⟨_, rfl, _⟩ := hx; exact ⟨rfl, rfl⟩
  all_goals (subst hx; exact ⟨rfl, rfl⟩)

def cellsOfV : V → List V
  | .agg l => l
  | v => [v]

/-- Does a value stand for cells? -/
def cellsB : V → Bool
  | .agg _ => true
  | v => oneV v

theorem cellsOfV_sound {v : V} {x : Value} (h : cellsB v = true) (hx : RV N ρ I w v x) :
    Rc N ρ I w (cellsOfV v) x.cells 0 ∧ (cellsOfV v).length = x.cells.size ∧ ∀ y ∈ x.cells.toList, y.oneCell' = true := by
  have one : ∀ {v : V}, oneV v = true → RV N ρ I w v x → Rc N ρ I w [v] x.cells 0 ∧ [v].length = x.cells.size ∧ ∀ y ∈ x.cells.toList, y.oneCell' = true := by
    intro v h1 h2
    obtain ⟨h3, h4⟩ := oneV_sound h1 h2
    rw [h4]
    exact ⟨by simp [Rc]; exact ⟨h3, h2⟩, rfl, by simpa using h3⟩
  cases v with
  | agg l =>
    simp only [cellsOfV]
    simp only [RV] at hx
    obtain ⟨c, rfl, h1, h2⟩ := hx
    refine ⟨h2, h1, fun y hy => ?_⟩
    obtain ⟨i, hi⟩ := List.getElem?_of_mem hy
    have hil : i < l.length := by
      have := (List.getElem?_eq_some_iff.1 hi).1
      simp only [Value.cells, Array.length_toList] at this
      omega
    obtain ⟨z, h3, h4, _⟩ := h2.get i l[i] (List.getElem?_eq_getElem hil)
    simp only [Value.cells, Array.getElem?_toList] at hi
    rw [Nat.zero_add, hi] at h3
    cases h3
    exact h4
  | _ => exact one h hx

def splice {α : Type} (l : List α) (off : Nat) (cs : List α) : List α := l.take off ++ cs ++ l.drop (off + cs.length)

theorem splice_length {α : Type} {l : List α} {off : Nat} {cs : List α} (h : off + cs.length ≤ l.length) : (splice l off cs).length = l.length := by
  simp [splice]; omega

theorem splice_get {α : Type} {l : List α} {off : Nat} {cs : List α} (h : off + cs.length ≤ l.length) (i : Nat) :
    (splice l off cs)[i]? = if i < off then l[i]? else if i < off + cs.length then cs[i - off]? else l[i]? := by
  unfold splice
  have hl : (l.take off).length = off := by simp; omega
  by_cases h1 : i < off
  · rw [if_pos h1, List.getElem?_append_left (by simp; omega), List.getElem?_append_left (by omega), List.getElem?_take, if_pos h1]
  · rw [if_neg h1]
    by_cases h2 : i < off + cs.length
    · rw [if_pos h2, List.getElem?_append_left (by simp; omega), List.getElem?_append_right (by omega), hl]
    · rw [if_neg h2, List.getElem?_append_right (by simp; omega), List.getElem?_drop]
      congr 1
      simp; omega

theorem Rc.splice {l cs : List V} {c x : Array Value} {o off : Nat} (hl : Rc N ρ I w l c o) (hc : Rc N ρ I w cs x 0) (hx : cs.length = x.size) (hb : off + cs.length ≤ l.length) (hsz : o + l.length ≤ c.size) :
    Rc N ρ I w (splice l off cs) (Ab.splice c.toList (o + off) x.toList).toArray o := Rc.mk fun i v hv => by
  rw [splice_get hb] at hv
  rw [List.getElem?_toArray, splice_get (by simp; omega)]
  split at hv
  · rw [if_pos (by omega)]
    obtain ⟨y, h1, h2⟩ := hl.get i v hv
    exact ⟨y, by simpa using h1, h2⟩
  · split at hv
    · rw [if_neg (by omega), if_pos (by simp; omega)]
      obtain ⟨y, h1, h2⟩ := hc.get _ v hv
      exact ⟨y, by rw [← h1]; simp; congr 1; omega, h2⟩
    · rw [if_neg (by omega), if_neg (by simp; omega)]
      obtain ⟨y, h1, h2⟩ := hl.get i v hv
      exact ⟨y, by simpa using h1, h2⟩

/-- Cells that are not written stay. -/
theorem Rc.splice_out {l : List V} {c : Array Value} {x : List Value} {o a : Nat} (hl : Rc N ρ I w l c o) (ha : a + x.length ≤ c.size) (ho : o + l.length ≤ a ∨ a + x.length ≤ o) :
    Rc N ρ I w l (Ab.splice c.toList a x).toArray o := Rc.mk fun i v hv => by
  have hi := (List.getElem?_eq_some_iff.1 hv).1
  obtain ⟨y, h1, h2⟩ := hl.get i v hv
  refine ⟨y, ?_, h2⟩
  rw [List.getElem?_toArray, splice_get (by simpa using ha)]
  split
  · simpa using h1
  · split
    · omega
    · simpa using h1

theorem run_storeCells_splice {g o : Nat} {c : Array Value} {ty : TypeId} (hg : w.heap[g]? = some (.cells c ty (0, 0))) (vs : List Value) (hb : o + vs.length ≤ c.size) (h1 : ∀ v ∈ vs, v.oneCell' = true) :
    (storeCells ⟨g, o, none⟩ vs).run P w = .ok () (w.setRow g (splice c.toList o vs).toArray) := by
  have := run_storeCells_at P g o ty vs 0 c w hg (by simpa using hb) h1
  simpa [splice] using this

def storeV (P : Program) (t : TypeId) (m : Mem) (p v : V) : Option Mem :=
  match P.info? t with
  | none => none
  | some inf => bif Nat.beq (cellsOfV v).length inf.size && cellsB v then
      match p with
      | .ptr n off => match m[n]? with
        | some (.var ty l) => if off + (cellsOfV v).length ≤ l.length then some (m.set n (.var ty (splice l off (cellsOfV v)))) else none
        | _ => none
      | .ep sz n i off => match m[n]? with
        | some (.row ty sz' es) => if sz = sz' then (match es[i]? with
          | some e => if off + (cellsOfV v).length ≤ e.length then some (m.set n (.row ty sz' (es.set i (splice e off (cellsOfV v))))) else none
          | none => none) else none
        | _ => none
      | _ => none
    else none

theorem setRow_facts {g : Nat} {c c' : Array Value} {ty : TypeId} (hg : w.heap[g]? = some (.cells c ty (0, 0))) (hs : c'.size = c.size) :
    (w.setRow g c').heap.size = w.heap.size ∧ (∀ k, k ≠ g → (w.setRow g c').heap[k]? = w.heap[k]?) ∧ (w.setRow g c').heap[g]? = some (.cells c' ty (0, 0)) ∧
    ∀ (d : Array Value) (ty' : TypeId), w.heap[g]? = some (.cells d ty' (0, 0)) → ∃ d', (w.setRow g c').heap[g]? = some (.cells d' ty' (0, 0)) ∧ d'.size = d.size := by
  refine ⟨by simp, fun k h => setRow_other w g k c' h, setRow_heap w g c c' ty _ hg, fun d ty' hd => ?_⟩
  rw [hg] at hd
  cases hd
  exact ⟨c', setRow_heap w g c c' ty _ hg, hs⟩

theorem live_of {n : Nat} {b : B} (h : m[n]? = some b) (hb : b.live = true) : live m n := ⟨b, h, hb⟩

theorem storeV_sound (hr : Rep ρ I m w) {t : TypeId} {p v : V} {x y : Value} {m' : Mem} (hp : RV m.length ρ I w p x) (hv : RV m.length ρ I w v y) (h : storeV P t m p v = some m') :
    CameU P ρ I m w (Instr.storeAt t x y) m' := by
  unfold storeV at h
  split at h
  · cases h
  · rename_i inf hi
    cases hc : Nat.beq (cellsOfV v).length inf.size && cellsB v with
    | false => rw [hc] at h; cases h
    | true =>
      rw [hc] at h
      simp only [cond_true] at h
      simp only [Bool.and_eq_true, Nat.beq_eq] at hc
      obtain ⟨h1, h2, h3⟩ := cellsOfV_sound hc.2 hv
      have hst : ∀ g o (c : Array Value) (ty : TypeId), w.heap[g]? = some (.cells c ty (0, 0)) → o + (cellsOfV v).length ≤ c.size →
          (storeVar t ⟨g, o, none⟩ y).run P w = .ok () (w.setRow g (splice c.toList o y.cells.toList).toArray) := by
        intro g o c ty hg hb
        have := run_storeCells_splice (P := P) hg y.cells.toList (by rw [Array.length_toList, ← h2]; exact hb) h3
        simp [storeVar, sizeOf, typeInfo, hi, ← h2, hc.1, this]
      split at h
      · rename_i n off
        split at h
        · rename_i ty l hm
          split at h
          · rename_i hb
            cases h
            obtain ⟨g0, c, g1, g2, g3⟩ := hr.blk _ _ hm
            simp only [RV] at hp
            rw [g0, Nat.zero_add] at hp
            have hs : (splice c.toList off y.cells.toList).toArray.size = c.size := by simp [splice]; omega
            obtain ⟨f1, f2, f3, f4⟩ := setRow_facts g1 hs
            obtain ⟨k1, k2⟩ := hr.write (w' := w.setRow (ρ n).1 (splice c.toList off y.cells.toList).toArray) (live_of hm rfl) (.var ty (splice l off (cellsOfV v))) rfl rfl rfl f1 f2 f4 (fun hk => by
              refine ⟨g0, _, f3, by rw [hs, splice_length hb, g2], ?_⟩
              have e := Rc.splice (off := off) (Rc.keep hk _ _ _ g3) (Rc.keep hk _ _ _ h1) h2 hb (by omega)
              rwa [Nat.zero_add] at e)
            exact ⟨_, ρ, I, by simp [Instr.storeAt, Instr.sureAddr, hp.2, hst (ρ n).1 off c ty g1 (by omega)], k1, k2⟩
          · cases h
        · cases h
      · rename_i sz n i off
        split at h
        · rename_i ty sz' es hm
          split at h
          · rename_i hsz
            subst hsz
            split at h
            · rename_i e he
              split at h
              · rename_i hb
                cases h
                obtain ⟨c, g1, g2, g3⟩ := hr.blk _ _ hm
                simp only [RV] at hp
                obtain ⟨e1, e2⟩ := g3.get i e he
                have hil : i < es.length := (List.getElem?_eq_some_iff.1 he).1
                have hmul : i * sz + sz ≤ es.length * sz := by
                  have := Nat.mul_le_mul_right sz (show i + 1 ≤ es.length from hil)
                  rw [Nat.add_mul] at this; omega
                have hfit : (ρ n).2 + (i * sz + off) + (cellsOfV v).length ≤ c.size := by omega
                have hs : (splice c.toList ((ρ n).2 + (i * sz + off)) y.cells.toList).toArray.size = c.size := by simp [splice]; omega
                obtain ⟨f1, f2, f3, f4⟩ := setRow_facts g1 hs
                obtain ⟨k1, k2⟩ := hr.write (w' := w.setRow (ρ n).1 (splice c.toList ((ρ n).2 + (i * sz + off)) y.cells.toList).toArray) (live_of hm rfl) (.row ty sz (es.set i (splice e off (cellsOfV v)))) rfl rfl rfl f1 f2 f4 (fun hk => by
                  refine ⟨_, f3, by rw [hs, List.length_set]; exact g2, Rcc.mk fun j u hu => ?_⟩
                  by_cases hj : j = i
                  · subst hj
                    rw [List.getElem?_set_self hil] at hu
                    cases hu
                    refine ⟨by rw [splice_length hb, e1], ?_⟩
                    have e := Rc.splice (off := off) (Rc.keep hk _ _ _ e2) (Rc.keep hk _ _ _ h1) h2 hb (by omega)
                    rwa [Nat.add_assoc] at e
                  · rw [List.getElem?_set_ne (fun h => hj h.symm)] at hu
                    obtain ⟨u1, u2⟩ := g3.get j u hu
                    have hyl : y.cells.toList.length = (cellsOfV v).length := by rw [Array.length_toList, h2]
                    refine ⟨u1, Rc.splice_out (Rc.keep hk _ _ _ u2) (by rw [hyl]; exact hfit) ?_⟩
                    rw [hyl]
                    rcases Nat.lt_or_gt_of_ne hj with hlt | hgt
                    · left
                      have := Nat.mul_le_mul_right sz (show j + 1 ≤ i from hlt)
                      rw [Nat.add_mul] at this; omega
                    · right
                      have := Nat.mul_le_mul_right sz (show i + 1 ≤ j from hgt)
                      rw [Nat.add_mul] at this; omega)
                exact ⟨_, ρ, I, by simp [Instr.storeAt, Instr.sureAddr, hp.2, hst _ _ c ty g1 hfit], k1, k2⟩
              · cases h
            · cases h
          · cases h
        · cases h
      · cases h

/-- A new variable that holds a value. -/
def newV (ty : TypeId) (m : Mem) (v : V) : Option (V × Mem) :=
  bif cellsB v then some (.ptr m.length 0, m ++ [.var ty (cellsOfV v)]) else none

theorem newV_sound (hr : Rep ρ I m w) {ty : TypeId} {v v' : V} {y : Value} {m' : Mem} (hv : RV m.length ρ I w v y) (h : newV ty m v = some (v', m')) :
    Came P ρ I m w (do pure (.pointer (some (← newVar ty y)))) v' m' := by
  unfold newV at h
  cases hc : cellsB v with
  | false => rw [hc] at h; cases h
  | true =>
    rw [hc] at h
    simp only [cond_true, Option.some.injEq, Prod.mk.injEq] at h
    obtain ⟨rfl, rfl⟩ := h
    obtain ⟨h1, h2, h3⟩ := cellsOfV_sound hc hv
    obtain ⟨k1, k2⟩ := hr.alloc (.cells y.cells ty) (.var ty (cellsOfV v)) (fun hk => ⟨rfl, y.cells, heap_alloc_new w _, h2.symm, Rc.keep hk _ _ _ h1⟩)
    refine ⟨_, _, _, _, rfl, k1, k2, ?_⟩
    simp only [RV]
    exact ⟨by simp, by rw [Pl.put_self]⟩

def allocV (P : Program) (t : TypeId) (m : Mem) : Option (V × Mem) :=
  match P.info? t with
  | some i => match i.zero with
    | some z => newV t m (constV z)
    | none => none
  | none => none

theorem allocV_sound (hr : Rep ρ I m w) {t : TypeId} {v' : V} {m' : Mem} (h : allocV P t m = some (v', m')) : Came P ρ I m w (Instr.alloc t true (.tuple #[])) v' m' := by
  unfold allocV at h
  split at h
  · rename_i i hi
    split at h
    · rename_i z hz
      obtain ⟨x, w', ρ', I', h1, h2, h3, h4⟩ := newV_sound (P := P) hr (RV_constV _ _ _ _ z) h
      refine ⟨x, w', ρ', I', ?_, h2, h3, h4⟩
      rw [← h1]
      simp [Instr.alloc, zeroValue, typeInfo, hi, hz]
    · cases h
  · cases h

def faddrV (P : Program) (t : TypeId) (f : Nat) (p : V) : Option V :=
  match fieldAtT P t f with
  | some fd => match P.info? fd.type with
    | some i => bif Nat.beq i.size 0 then none else match p with
      | .ptr n off => some (.ptr n (off + fd.offset))
      | .ep sz n i off => some (.ep sz n i (off + fd.offset))
      | .ip l => if fd.offset ≤ l.length then some (.ip (l.drop fd.offset)) else none
      | _ => none
    | none => none
  | none => none

theorem faddrV_sound {t : TypeId} {f : Nat} {p v : V} {x : Value} (hp : RV N ρ I w p x) (h : faddrV P t f p = some v) : ∃ y, (Instr.fieldAt t x f).run P w = .ok y w ∧ RV N ρ I w v y := by
  unfold faddrV at h
  split at h
  · rename_i fd hfd
    unfold fieldAtT at hfd
    split at hfd
    · rename_i fs hu
      split at h
      · rename_i i hi
        cases hz : Nat.beq i.size 0 with
        | true => rw [hz] at h; cases h
        | false =>
          rw [hz] at h
          simp only [cond_false] at h
          have hz' : i.size ≠ 0 := by
            intro e; rw [e] at hz; cases hz
          have hplace : ∀ b o, (Instr.fieldAt t (.pointer (some ⟨b, o, none⟩)) f).run P w = .ok (.pointer (some ⟨b, o + fd.offset, none⟩)) w := by
            intro b o
            simp [Instr.fieldAt, run_underlying hu, hfd, Instr.sureAddr, fieldPlace, sizeOf, typeInfo, hi, hz', Addr.add_lit]
          split at h
          · cases h
            simp only [RV] at hp ⊢
            obtain ⟨h1, rfl⟩ := hp
            exact ⟨_, hplace _ _, h1, by rw [Nat.add_assoc]⟩
          · cases h
            simp only [RV] at hp ⊢
            obtain ⟨h1, rfl⟩ := hp
            exact ⟨_, hplace _ _, h1, by simp [Nat.add_assoc]⟩
          · split at h
            · cases h
              simp only [RV] at hp ⊢
              obtain ⟨b, o, c, ty, fr, rfl, h2, h3, h4⟩ := hp
              exact ⟨_, hplace _ _, b, o + fd.offset, c, ty, fr, rfl, h2, h3, h4.drop _⟩
            · cases h
          · cases h
      · cases h
    · cases hfd
  · cases h

def iaddrV (P : Program) (t : TypeId) : V → V → Option V
  | p, .int _ i => match P.underlying t with
    | some (.array n e) => if 0 ≤ i ∧ i < n then match P.info? e with
        | some inf => match p with
          | .ptr k off => some (.ptr k (off + i.toNat * inf.size))
          | .ep sz k j off => some (.ep sz k j (off + i.toNat * inf.size))
          | .ip l => some (.ip (l.drop (i.toNat * inf.size)))
          | _ => none
        | none => none
      else none
    | some (.slice e) => match P.info? e with
        | some inf => match p with
          | .sl sz k off len => if 0 ≤ i ∧ i < len then (bif Nat.beq sz inf.size then some (.ep sz k (off + i.toNat) 0) else none) else none
          | .isl sz es => if 0 ≤ i ∧ i < es.length then (bif Nat.beq sz inf.size then (match es[i.toNat]? with
              | some e => some (.ip e)
              | none => none) else none) else none
          | _ => none
        | none => none
    | _ => none
  | _, _ => none

theorem iaddrV_sound {t : TypeId} {p q v : V} {x y : Value} (hp : RV N ρ I w p x) (hq : RV N ρ I w q y) (h : iaddrV P t p q = some v) :
    ∃ z, (Instr.indexAt t x y).run P w = .ok z w ∧ RV N ρ I w v z := by
  unfold iaddrV at h
  split at h
  · simp only [RV] at hq
    subst hq
    split at h
    · rename_i n e hu
      split at h
      · rename_i hi
        split at h
        · rename_i inf hinf
          have hplace : ∀ b o k j, (Instr.indexAt t (.pointer (some ⟨b, o, none⟩)) (.int k j)).run P w = if 0 ≤ j ∧ j < n then .ok (.pointer (some ⟨b, o + j.toNat * inf.size, none⟩)) w else (Instr.indexAt t (.pointer (some ⟨b, o, none⟩)) (.int k j)).run P w := by
            intro b o k j
            split
            · rename_i hj
              simp [Instr.indexAt, asIntOf, run_underlying hu, Instr.sureAddr, hj, sizeOf, typeInfo, hinf, Addr.add_lit]
            · rfl
          split at h
          · cases h
            simp only [RV] at hp ⊢
            obtain ⟨h1, rfl⟩ := hp
            exact ⟨_, by rw [hplace, if_pos hi], h1, by rw [Nat.add_assoc]⟩
          · cases h
            simp only [RV] at hp ⊢
            obtain ⟨h1, rfl⟩ := hp
            exact ⟨_, by rw [hplace, if_pos hi], h1, by simp [Nat.add_assoc]⟩
          · cases h
            simp only [RV] at hp ⊢
            obtain ⟨b, o, c, ty, fr, rfl, h2, h3, h4⟩ := hp
            exact ⟨_, by rw [hplace, if_pos hi], b, _, c, ty, fr, rfl, h2, h3, h4.drop _⟩
          · cases h
        · cases h
      · cases h
    · rename_i e hu
      split at h
      · rename_i inf hinf
        have hplace : ∀ (b o len cap : Nat) k (j : Int), 0 ≤ j ∧ j < (len : Int) → (Instr.indexAt t (.slice (some ⟨b, o, none⟩) len cap) (.int k j)).run P w = .ok (.pointer (some ⟨b, o + j.toNat * inf.size, none⟩)) w := by
          intro b o len cap k j hj
          simp [Instr.indexAt, asIntOf, run_underlying hu, hj, sizeOf, typeInfo, hinf, Addr.add_lit]
        split at h
        · rename_i sz k off len
          split at h
          · rename_i hi
            cases hs : Nat.beq sz inf.size with
            | false => rw [hs] at h; cases h
            | true =>
              rw [hs] at h
              simp only [cond_true, Option.some.injEq] at h
              subst h
              have hs' := Nat.eq_of_beq_eq_true hs
              simp only [RV] at hp ⊢
              obtain ⟨h1, o, cap, rfl, h2, h3, c, ty, h4, h5⟩ := hp
              refine ⟨_, hplace _ _ _ _ _ _ hi, h1, ?_⟩
              rcases h3 with h3 | h3
              · omega
              · rw [h3, hs', Nat.add_mul]
                simp [Nat.add_assoc]
          · cases h
        · rename_i sz es
          split at h
          · rename_i hi
            cases hs : Nat.beq sz inf.size with
            | false => rw [hs] at h; cases h
            | true =>
              rw [hs] at h
              simp only [cond_true] at h
              have hs' := Nat.eq_of_beq_eq_true hs
              split at h
              · rename_i el he
                cases h
                simp only [RV] at hp ⊢
                obtain ⟨a, cap, rfl, h2, h3⟩ := hp
                rcases h3 with rfl | ⟨b, o, c, ty, fr, rfl, h4, h5, h6⟩
                · simp at hi; omega
                · exact ⟨_, hplace _ _ _ _ _ _ hi, b, _, c, ty, fr, rfl, h4, h5, by rw [← hs']; exact (h6.get _ el he).2⟩
              · cases h
          · cases h
        · cases h
      · cases h
    · cases h
  · cases h
end
end Go.Proofs.Ytnhejkfbnjopjaa.Ab
