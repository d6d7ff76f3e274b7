/- The abstract values and memory of an evaluator for the loaded program, and what it means that they stand for the machine's. No condition. How the relation of memory goes on behind a new block, a write, a block that is given up. No condition. The evaluator's operations that touch no memory, and that they answer as the machine does. No condition. The evaluator's loads, stores and new variables, and that they answer as the machine does. No condition. -/
import Derived.WalkKit
import Derived.RowKit3
import Derived.DeepKeys
import Derived.Laws.Cover3
import Derived.Laws.BytesArg
namespace Go.Proofs.Ytjjenpdjmcmgbaa.Ab
open Go
set_option linter.unusedSimpArgs false
set_option linter.unusedVariables false
/-- Abstract values. Names of memory blocks are numbers; what cannot be written is carried by value. -/
inductive V where
  | unk
  | bool (b : Bool)
  | int (k : IntKind) (n : Int)
  | str (s : ByteArray)
  | nilp
  | ptr (n off : Nat)
  | ep (sz n i off : Nat)
  | ip (cells : List V)
  | nils
  | sl (sz n off len : Nat)
  | isl (sz : Nat) (es : List (List V))
  | nilm
  | mp (n : Nat)
  | nilf
  | fn (f : Nat) (first cap : List V)
  | nili
  | ifc (t : Nat) (v : V)
  | agg (l : List V)
  | tup (l : List V)
inductive B where
  | dead
  | var (ty : Nat) (l : List V)
  | row (ty sz : Nat) (es : List (List V))
  | map (es : List (V × V)) (bs : List Nat) (clk : Nat)
  | iter (k since : Nat) (seen : List Nat) (last : Nat)
def B.live : B → Bool
  | .dead => false
  | _ => true
abbrev Mem := List B
def live (m : Mem) (n : Nat) : Prop := ∃ b, m[n]? = some b ∧ b.live = true
theorem live_lt {m : Mem} {n : Nat} (h : live m n) : n < m.length := by
  obtain ⟨b, hb, _⟩ := h
  exact (List.getElem?_eq_some_iff.1 hb).1
/-- A place: a block's number and where in it. -/
abbrev Pl := Nat → Nat × Nat
/-- Places that can be written: no string shares their bytes. -/
def Uf (fr : Nat × Nat) (o k : Nat) : Prop := ∀ j, o ≤ j → j < o + k → ¬ (fr.1 ≤ j ∧ j < fr.2)
theorem Uf.part {fr : Nat × Nat} {o k o' k' : Nat} (h : Uf fr o k) (h1 : o ≤ o') (h2 : k' = 0 ∨ o' + k' ≤ o + k) : Uf fr o' k' := fun j h3 h4 => h j (by omega) (by omega)
theorem Uf.none (o k : Nat) : Uf (0, 0) o k := fun j _ _ h => by have := h.2; simp at this
section rel
variable (N : Nat) (ρ : Pl) (I : Nat → Prop) (w : World)
mutual
def RV : V → Value → Prop
  | .unk, _ => True
  | .bool b, x => x = .bool b
  | .int k n, x => x = .int k n
  | .str s, x => x = .string s
  | .nilp, x => x = .pointer none
  | .ptr n off, x => n < N ∧ x = .pointer (some ⟨(ρ n).1, (ρ n).2 + off, none⟩)
  | .ep sz n i off, x => n < N ∧ x = .pointer (some ⟨(ρ n).1, (ρ n).2 + (i * sz + off), none⟩)
  | .ip l, x => ∃ b o c ty fr, x = .pointer (some ⟨b, o, none⟩) ∧ I b ∧ w.heap[b]? = some (.cells c ty fr) ∧ (Rc l c o ∧ Uf fr o l.length)
  | .nils, x => x = .slice none 0 0
  | .sl sz n off len, x => n < N ∧ ∃ o cap, x = .slice (some ⟨(ρ n).1, o, none⟩) len cap ∧ (len ≤ cap ∧ cap ≤ 9223372036854775807) ∧ (cap = 0 ∨ o = (ρ n).2 + off * sz) ∧
      ∃ c ty, w.heap[(ρ n).1]? = some (.cells c ty (0, 0)) ∧ (cap = 0 ∨ o + cap * sz ≤ c.size)
  | .isl sz es, x => ∃ a cap, x = .slice a es.length cap ∧ es.length ≤ cap ∧ (es = [] ∨ ∃ b o c ty fr, a = some ⟨b, o, none⟩ ∧ I b ∧ w.heap[b]? = some (.cells c ty fr) ∧ (Rcc es c o sz ∧ Uf fr o (es.length * sz)))
  | .nilm, x => x = .map none
  | .mp n, x => n < N ∧ x = .map (some (ρ n).1)
  | .nilf, x => x = .nilFunc
  | .fn f fi cp, x => ∃ a b, x = .func (.func f) a b ∧ fi.length = a.size ∧ Rt fi a 0 ∧ cp.length = b.size ∧ Rt cp b 0
  | .nili, x => x = .nilIface
  | .ifc t v, x => ∃ y, x = .iface t y ∧ RV v y
  | .agg l, x => ∃ c, x = .agg c ∧ l.length = c.size ∧ Rc l c 0
  | .tup l, x => ∃ c, x = .tuple c ∧ l.length = c.size ∧ Rt l c 0
def Rc : List V → Array Value → Nat → Prop
  | [], _, _ => True
  | v :: r, c, o => (∃ x, c[o]? = some x ∧ x.oneCell' = true ∧ RV v x) ∧ Rc r c (o + 1)
def Rt : List V → Array Value → Nat → Prop
  | [], _, _ => True
  | v :: r, c, o => (∃ x, c[o]? = some x ∧ RV v x) ∧ Rt r c (o + 1)
def Rcc : List (List V) → Array Value → Nat → Nat → Prop
  | [], _, _, _ => True
  | e :: r, c, o, sz => (e.length = sz ∧ Rc e c o) ∧ Rcc r c (o + sz) sz
end
end rel
/-- A place of a map's entries. -/
def Re (N : Nat) (ρ : Pl) (I : Nat → Prop) (w : World) : List (V × V) → List MapEntry → Prop
  | [], [] => True
  | (k, v) :: r, e :: es => RV N ρ I w k e.key ∧ RV N ρ I w v e.val ∧ Re N ρ I w r es
  | _, _ => False
def holds (N : Nat) (ρ : Pl) (I : Nat → Prop) (w : World) (p : Nat × Nat) : B → Prop
  | .dead => True
  | .var ty l => p.2 = 0 ∧ ∃ c, w.heap[p.1]? = some (.cells c ty (0, 0)) ∧ c.size = l.length ∧ Rc N ρ I w l c 0
  | .row ty sz es => ∃ c, w.heap[p.1]? = some (.cells c ty (0, 0)) ∧ p.2 + es.length * sz ≤ c.size ∧ Rcc N ρ I w es c p.2 sz
  | .map es bs clk => p.2 = 0 ∧ ∃ ents, w.heap[p.1]? = some (.map ents clk) ∧ Re N ρ I w es ents.toList ∧ ents.toList.map (·.born) = bs
  | .iter k since seen last => p.2 = 0 ∧ k < N ∧ w.heap[p.1]? = some (.mapIter (some (ρ k).1) since seen.toArray last)
structure Rep (ρ : Pl) (I : Nat → Prop) (m : Mem) (w : World) : Prop where
  blk : ∀ n b, m[n]? = some b → holds m.length ρ I w (ρ n) b
  notI : ∀ n, live m n → ¬ I (ρ n).1
  inj : ∀ n n', live m n → live m n' → (ρ n).1 = (ρ n').1 → n = n'
  ilt : ∀ b, I b → b < w.heap.size
def Own (ρ : Pl) (m : Mem) (b : Nat) : Prop := ∃ n, live m n ∧ (ρ n).1 = b
structure WLe (I : Nat → Prop) (w w' : World) : Prop where
  os : w'.os = w.os
  tape : w'.tape = w.tape
  output : w'.output = w.output
  size : w.heap.size ≤ w'.heap.size
  imm : ∀ b : Nat, I b → w'.heap[b]? = w.heap[b]?
  cells : ∀ (b : Nat) (c : Array Value) (ty : TypeId), w.heap[b]? = some (.cells c ty (0, 0)) → ∃ c', w'.heap[b]? = some (.cells c' ty (0, 0)) ∧ c'.size = c.size
theorem WLe.refl (I : Nat → Prop) (w : World) : WLe I w w := ⟨rfl, rfl, rfl, Nat.le_refl _, fun _ _ => rfl, fun _ c _ h => ⟨c, h, rfl⟩⟩
structure Step (ρ : Pl) (I : Nat → Prop) (m : Mem) (w : World) (ρ' : Pl) (I' : Nat → Prop) (m' : Mem) (w' : World) : Prop where
  len : m.length ≤ m'.length
  rho : ∀ n, n < m.length → ρ' n = ρ n
  dead : ∀ n, n < m.length → live m' n → live m n
  iSub : ∀ b, I b → I' b
  iNew : ∀ b, I' b → I b ∨ w.heap.size ≤ b ∨ Own ρ m b
  own : ∀ b, Own ρ' m' b → w.heap.size ≤ b ∨ Own ρ m b
  wle : WLe I w w'
  frame : ∀ b : Nat, b < w.heap.size → ¬ Own ρ m b → w'.heap[b]? = w.heap[b]?
theorem Step.refl (ρ : Pl) (I : Nat → Prop) (m : Mem) (w : World) : Step ρ I m w ρ I m w :=
  ⟨Nat.le_refl _, fun _ _ => rfl, fun _ _ h => h, fun _ h => h, fun _ h => .inl h, fun _ h => .inr h, WLe.refl _ _, fun _ _ _ => rfl⟩
theorem Step.trans {ρ ρ' ρ'' : Pl} {I I' I'' : Nat → Prop} {m m' m'' : Mem} {w w' w'' : World}
    (h : Step ρ I m w ρ' I' m' w') (k : Step ρ' I' m' w' ρ'' I'' m'' w'') : Step ρ I m w ρ'' I'' m'' w'' where
  len := Nat.le_trans h.len k.len
  rho n hn := (k.rho n (Nat.lt_of_lt_of_le hn h.len)).trans (h.rho n hn)
  dead n hn hl := h.dead n hn (k.dead n (Nat.lt_of_lt_of_le hn h.len) hl)
  iSub b hb := k.iSub b (h.iSub b hb)
  iNew b hb := by
    rcases k.iNew b hb with h1 | h1 | h1
    · exact h.iNew b h1
    · exact .inr (.inl (Nat.le_trans h.wle.size h1))
    · exact .inr (h.own b h1)
  own b hb := by
    rcases k.own b hb with h1 | h1
    · exact .inl (Nat.le_trans h.wle.size h1)
    · exact h.own b h1
  wle := ⟨k.wle.os.trans h.wle.os, k.wle.tape.trans h.wle.tape, k.wle.output.trans h.wle.output, Nat.le_trans h.wle.size k.wle.size,
    fun b hb => (k.wle.imm b (h.iSub b hb)).trans (h.wle.imm b hb),
    fun b c ty hb => by
      obtain ⟨c1, h1, h2⟩ := h.wle.cells b c ty hb
      obtain ⟨c2, h3, h4⟩ := k.wle.cells b c1 ty h1
      exact ⟨c2, h3, h4.trans h2⟩⟩
  frame b hb ho := by
    have h1 := h.frame b hb ho
    rw [k.frame b (Nat.lt_of_lt_of_le hb h.wle.size) (fun h2 => by
      rcases h.own b h2 with h3 | h3
      · omega
      · exact ho h3)]
    exact h1
/-- What is kept of the relation of values. -/
structure Keeps (N : Nat) (ρ : Pl) (I : Nat → Prop) (w : World) (N' : Nat) (ρ' : Pl) (I' : Nat → Prop) (w' : World) : Prop where
  len : N ≤ N'
  rho : ∀ n, n < N → ρ' n = ρ n
  iSub : ∀ b, I b → I' b
  imm : ∀ b : Nat, I b → w'.heap[b]? = w.heap[b]?
  cells : ∀ (b : Nat) (c : Array Value) (ty : TypeId), w.heap[b]? = some (.cells c ty (0, 0)) → ∃ c', w'.heap[b]? = some (.cells c' ty (0, 0)) ∧ c'.size = c.size
theorem Step.keeps {ρ ρ' : Pl} {I I' : Nat → Prop} {m m' : Mem} {w w' : World} (h : Step ρ I m w ρ' I' m' w') :
    Keeps m.length ρ I w m'.length ρ' I' w' := ⟨h.len, h.rho, h.iSub, h.wle.imm, h.wle.cells⟩
section
variable {N N' : Nat} {ρ ρ' : Pl} {I I' : Nat → Prop} {w w' : World}
mutual
theorem RV.keep (h : Keeps N ρ I w N' ρ' I' w') : ∀ (v : V) (x : Value), RV N ρ I w v x → RV N' ρ' I' w' v x
  | .unk, _, _ => by simp [RV]
  | .bool b, x, hx => by simpa [RV] using hx
  | .int k n, x, hx => by simpa [RV] using hx
  | .str s, x, hx => by simpa [RV] using hx
  | .nilp, x, hx => by simpa [RV] using hx
  | .ptr n off, x, hx => by
    simp only [RV] at hx ⊢
    exact ⟨Nat.lt_of_lt_of_le hx.1 h.len, by rw [h.rho n hx.1]; exact hx.2⟩
  | .ep sz n i off, x, hx => by
    simp only [RV] at hx ⊢
    exact ⟨Nat.lt_of_lt_of_le hx.1 h.len, by rw [h.rho n hx.1]; exact hx.2⟩
  | .ip l, x, hx => by
    simp only [RV] at hx ⊢
    obtain ⟨b, o, c, ty, fr, h1, h2, h3, h4⟩ := hx
    exact ⟨b, o, c, ty, fr, h1, h.iSub b h2, by rw [h.imm b h2]; exact h3, Rc.keep h l c o h4.1, h4.2⟩
  | .nils, x, hx => by simpa [RV] using hx
  | .sl sz n off len, x, hx => by
    simp only [RV] at hx ⊢
    obtain ⟨h0, o, cap, h1, h2, h3, c, ty, h4, h5⟩ := hx
    obtain ⟨c', h6, h7⟩ := h.cells _ c ty h4
    exact ⟨Nat.lt_of_lt_of_le h0 h.len, o, cap, by rw [h.rho n h0]; exact h1, h2, by rw [h.rho n h0]; exact h3, c', ty, by rw [h.rho n h0]; exact h6, by rw [h7]; exact h5⟩
  | .isl sz es, x, hx => by
    simp only [RV] at hx ⊢
    obtain ⟨a, cap, h1, h2, h3⟩ := hx
    refine ⟨a, cap, h1, h2, ?_⟩
    rcases h3 with h3 | ⟨b, o, c, ty, fr, h3, h4, h5, h6⟩
    · exact .inl h3
    · exact .inr ⟨b, o, c, ty, fr, h3, h.iSub b h4, by rw [h.imm b h4]; exact h5, Rcc.keep h es c o sz h6.1, h6.2⟩
  | .nilm, x, hx => by simpa [RV] using hx
  | .mp n, x, hx => by
    simp only [RV] at hx ⊢
    exact ⟨Nat.lt_of_lt_of_le hx.1 h.len, by rw [h.rho n hx.1]; exact hx.2⟩
  | .nilf, x, hx => by simpa [RV] using hx
  | .fn f fi cp, x, hx => by
    simp only [RV] at hx ⊢
    obtain ⟨a, b, h1, h2, h3, h4, h5⟩ := hx
    exact ⟨a, b, h1, h2, Rt.keep h fi a 0 h3, h4, Rt.keep h cp b 0 h5⟩
  | .nili, x, hx => by simpa [RV] using hx
  | .ifc t v, x, hx => by
    simp only [RV] at hx ⊢
    obtain ⟨y, h1, h2⟩ := hx
    exact ⟨y, h1, RV.keep h v y h2⟩
  | .agg l, x, hx => by
    simp only [RV] at hx ⊢
    obtain ⟨c, h1, h2, h3⟩ := hx
    exact ⟨c, h1, h2, Rc.keep h l c 0 h3⟩
  | .tup l, x, hx => by
    simp only [RV] at hx ⊢
    obtain ⟨c, h1, h2, h3⟩ := hx
    exact ⟨c, h1, h2, Rt.keep h l c 0 h3⟩
theorem Rc.keep (h : Keeps N ρ I w N' ρ' I' w') : ∀ (l : List V) (c : Array Value) (o : Nat), Rc N ρ I w l c o → Rc N' ρ' I' w' l c o
  | [], _, _, _ => by simp [Rc]
  | v :: r, c, o, hx => by
    simp only [Rc] at hx ⊢
    obtain ⟨⟨x, h1, h0, h2⟩, h3⟩ := hx
    exact ⟨⟨x, h1, h0, RV.keep h v x h2⟩, Rc.keep h r c (o + 1) h3⟩
theorem Rt.keep (h : Keeps N ρ I w N' ρ' I' w') : ∀ (l : List V) (c : Array Value) (o : Nat), Rt N ρ I w l c o → Rt N' ρ' I' w' l c o
  | [], _, _, _ => by simp [Rt]
  | v :: r, c, o, hx => by
    simp only [Rt] at hx ⊢
    obtain ⟨⟨x, h1, h2⟩, h3⟩ := hx
    exact ⟨⟨x, h1, RV.keep h v x h2⟩, Rt.keep h r c (o + 1) h3⟩
theorem Rcc.keep (h : Keeps N ρ I w N' ρ' I' w') : ∀ (l : List (List V)) (c : Array Value) (o sz : Nat), Rcc N ρ I w l c o sz → Rcc N' ρ' I' w' l c o sz
  | [], _, _, _, _ => by simp [Rcc]
  | e :: r, c, o, sz, hx => by
    simp only [Rcc] at hx ⊢
    obtain ⟨⟨h1, h2⟩, h3⟩ := hx
    exact ⟨⟨h1, Rc.keep h e c o h2⟩, Rcc.keep h r c (o + sz) sz h3⟩
end
theorem Re.keep (h : Keeps N ρ I w N' ρ' I' w') : ∀ (l : List (V × V)) (es : List MapEntry), Re N ρ I w l es → Re N' ρ' I' w' l es
  | [], [], _ => by simp [Re]
  | [], _ :: _, hx => by simp [Re] at hx
  | _ :: _, [], hx => by simp [Re] at hx
  | (k, v) :: r, e :: es, hx => by
    simp only [Re] at hx ⊢
    exact ⟨RV.keep h _ _ hx.1, RV.keep h _ _ hx.2.1, Re.keep h r es hx.2.2⟩
end
/-- Cells by their places. -/
theorem Rc.get {N : Nat} {ρ : Pl} {I : Nat → Prop} {w : World} : ∀ {l : List V} {c : Array Value} {o : Nat}, Rc N ρ I w l c o →
    ∀ i v, l[i]? = some v → ∃ x, c[o + i]? = some x ∧ x.oneCell' = true ∧ RV N ρ I w v x
  | [], _, _, _, i, v, hv => by simp at hv
  | u :: r, c, o, h, 0, v, hv => by
    simp only [Rc] at h
    obtain ⟨⟨x, h1, h2⟩, _⟩ := h
    simp at hv; subst hv
    exact ⟨x, by simpa using h1, h2⟩
  | u :: r, c, o, h, i + 1, v, hv => by
    simp only [Rc] at h
    obtain ⟨x, h1, h2⟩ := Rc.get h.2 i v (by simpa using hv)
    exact ⟨x, by rw [← h1]; congr 1; omega, h2⟩
theorem Rc.mk {N : Nat} {ρ : Pl} {I : Nat → Prop} {w : World} : ∀ {l : List V} {c : Array Value} {o : Nat},
    (∀ i v, l[i]? = some v → ∃ x, c[o + i]? = some x ∧ x.oneCell' = true ∧ RV N ρ I w v x) → Rc N ρ I w l c o
  | [], _, _, _ => by simp [Rc]
  | u :: r, c, o, h => by
    simp only [Rc]
    refine ⟨by simpa using h 0 u rfl, Rc.mk fun i v hv => ?_⟩
    obtain ⟨x, h1, h2⟩ := h (i + 1) v (by simpa using hv)
    exact ⟨x, by rw [← h1]; congr 1; omega, h2⟩
theorem Rt.get {N : Nat} {ρ : Pl} {I : Nat → Prop} {w : World} : ∀ {l : List V} {c : Array Value} {o : Nat}, Rt N ρ I w l c o →
    ∀ i v, l[i]? = some v → ∃ x, c[o + i]? = some x ∧ RV N ρ I w v x
  | [], _, _, _, i, v, hv => by simp at hv
  | u :: r, c, o, h, 0, v, hv => by
    simp only [Rt] at h
    obtain ⟨⟨x, h1, h2⟩, _⟩ := h
    simp at hv; subst hv
    exact ⟨x, by simpa using h1, h2⟩
  | u :: r, c, o, h, i + 1, v, hv => by
    simp only [Rt] at h
    obtain ⟨x, h1, h2⟩ := Rt.get h.2 i v (by simpa using hv)
    exact ⟨x, by rw [← h1]; congr 1; omega, h2⟩
theorem Rt.mk {N : Nat} {ρ : Pl} {I : Nat → Prop} {w : World} : ∀ {l : List V} {c : Array Value} {o : Nat},
    (∀ i v, l[i]? = some v → ∃ x, c[o + i]? = some x ∧ RV N ρ I w v x) → Rt N ρ I w l c o
  | [], _, _, _ => by simp [Rt]
  | u :: r, c, o, h => by
    simp only [Rt]
    refine ⟨by simpa using h 0 u rfl, Rt.mk fun i v hv => ?_⟩
    obtain ⟨x, h1, h2⟩ := h (i + 1) v (by simpa using hv)
    exact ⟨x, by rw [← h1]; congr 1; omega, h2⟩
theorem Rcc.get {N : Nat} {ρ : Pl} {I : Nat → Prop} {w : World} : ∀ {l : List (List V)} {c : Array Value} {o sz : Nat}, Rcc N ρ I w l c o sz →
    ∀ i e, l[i]? = some e → e.length = sz ∧ Rc N ρ I w e c (o + i * sz)
  | [], _, _, _, _, i, v, hv => by simp at hv
  | u :: r, c, o, sz, h, 0, v, hv => by
    simp only [Rcc] at h
    simp at hv; subst hv
    simpa using h.1
  | u :: r, c, o, sz, h, i + 1, v, hv => by
    simp only [Rcc] at h
    have := Rcc.get h.2 i v (by simpa using hv)
    rwa [show o + (i + 1) * sz = o + sz + i * sz by rw [Nat.add_mul]; omega]
theorem Rcc.mk {N : Nat} {ρ : Pl} {I : Nat → Prop} {w : World} : ∀ {l : List (List V)} {c : Array Value} {o sz : Nat},
    (∀ i e, l[i]? = some e → e.length = sz ∧ Rc N ρ I w e c (o + i * sz)) → Rcc N ρ I w l c o sz
  | [], _, _, _, _ => by simp [Rcc]
  | u :: r, c, o, sz, h => by
    simp only [Rcc]
    refine ⟨by simpa using h 0 u rfl, Rcc.mk fun i v hv => ?_⟩
    have := h (i + 1) v (by simpa using hv)
    rwa [show o + (i + 1) * sz = o + sz + i * sz by rw [Nat.add_mul]; omega] at this
end Go.Proofs.Ytjjenpdjmcmgbaa.Ab
namespace Go.Proofs.Ytjjenpdjmcmgbaa.Ab
open Go
set_option linter.unusedSimpArgs false
set_option linter.unusedVariables false
section
variable {ρ : Pl} {I : Nat → Prop} {m : Mem} {w w' : World}
theorem holds.lt {N : Nat} {p : Nat × Nat} {b : B} (hb : b.live = true) (h : holds N ρ I w p b) : p.1 < w.heap.size := by
  cases b with
  | dead => cases hb
  | var ty l => obtain ⟨_, c, h1, _⟩ := h; exact (Array.getElem?_eq_some_iff.1 h1).1
  | row ty sz es => obtain ⟨c, h1, _⟩ := h; exact (Array.getElem?_eq_some_iff.1 h1).1
  | map es bs clk => obtain ⟨_, c, h1, _⟩ := h; exact (Array.getElem?_eq_some_iff.1 h1).1
  | iter k since seen last => obtain ⟨_, _, h1⟩ := h; exact (Array.getElem?_eq_some_iff.1 h1).1
theorem Rep.live_lt (hr : Rep ρ I m w) {n : Nat} (hl : live m n) : (ρ n).1 < w.heap.size := by
  obtain ⟨b, hb, h⟩ := hl
  exact (hr.blk n b hb).lt h
theorem holds.keep {N N' : Nat} {ρ' : Pl} {I' : Nat → Prop} {p : Nat × Nat} {b : B} (hk : Keeps N ρ I w N' ρ' I' w') (hb : w'.heap[p.1]? = w.heap[p.1]?)
    (h : holds N ρ I w p b) : holds N' ρ' I' w' p b := by
  cases b with
  | dead => trivial
  | var ty l => obtain ⟨h0, c, h1, h2, h3⟩ := h; exact ⟨h0, c, by rw [hb]; exact h1, h2, Rc.keep hk _ _ _ h3⟩
  | row ty sz es => obtain ⟨c, h1, h2, h3⟩ := h; exact ⟨c, by rw [hb]; exact h1, h2, Rcc.keep hk _ _ _ _ h3⟩
  | map es bs clk => obtain ⟨h0, c, h1, h2, h3⟩ := h; exact ⟨h0, c, by rw [hb]; exact h1, Re.keep hk _ _ h2, h3⟩
  | iter k since seen last => obtain ⟨h0, h1, h2⟩ := h; exact ⟨h0, Nat.lt_of_lt_of_le h1 hk.len, by rw [hb, hk.rho k h1]; exact h2⟩
/-- A world that differs in its draws alone. -/
structure Same (w w' : World) : Prop where
  os : w'.os = w.os
  tape : w'.tape = w.tape
  output : w'.output = w.output
  heap : w'.heap = w.heap
theorem Same.drew (w : World) : Same w w.drew := ⟨rfl, rfl, rfl, rfl⟩
theorem Same.refl (w : World) : Same w w := ⟨rfl, rfl, rfl, rfl⟩
theorem WLe.of_same (h : Same w w') : WLe I w w' :=
  ⟨h.os, h.tape, h.output, by rw [h.heap]; exact Nat.le_refl _, fun b _ => by rw [h.heap], fun b c ty hb => ⟨c, by rw [h.heap]; exact hb, rfl⟩⟩
theorem Keeps.of_same {N : Nat} (h : Same w w') : Keeps N ρ I w N ρ I w' :=
  ⟨Nat.le_refl _, fun _ _ => rfl, fun _ h => h, fun b _ => by rw [h.heap], fun b c ty hb => ⟨c, by rw [h.heap]; exact hb, rfl⟩⟩
theorem Rep.same (hr : Rep ρ I m w) (h : Same w w') : Rep ρ I m w' ∧ Step ρ I m w ρ I m w' :=
  ⟨⟨fun n b hb => (hr.blk n b hb).keep (Keeps.of_same h) (by rw [h.heap]), hr.notI, hr.inj, fun b hb => by rw [h.heap]; exact hr.ilt b hb⟩,
   ⟨Nat.le_refl _, fun _ _ => rfl, fun _ _ h => h, fun _ h => h, fun _ h => .inl h, fun _ h => .inr h, WLe.of_same h, fun b _ _ => by rw [h.heap]⟩⟩
theorem live_set {m : Mem} {n k : Nat} {b : B} (h : live (m.set n b) k) : (k = n ∧ b.live = true) ∨ (k ≠ n ∧ live m k) := by
  obtain ⟨c, hc, hl⟩ := h
  by_cases hk : k = n
  · subst hk
    have hlt : k < m.length := by
      have := (List.getElem?_eq_some_iff.1 hc).1
      simpa using this
    rw [List.getElem?_set_self hlt] at hc
    cases hc
    exact .inl ⟨rfl, hl⟩
  · rw [List.getElem?_set_ne (fun h => hk h.symm)] at hc
    exact .inr ⟨hk, c, hc, hl⟩
/-- A block of the call's own is written. -/
theorem Rep.write (hr : Rep ρ I m w) {n : Nat} (hl : live m n) (b' : B)
    (hos : w'.os = w.os) (htape : w'.tape = w.tape) (hout : w'.output = w.output) (hsz : w'.heap.size = w.heap.size)
    (hne : ∀ k, k ≠ (ρ n).1 → w'.heap[k]? = w.heap[k]?)
    (hcell : ∀ (c : Array Value) (ty : TypeId), w.heap[(ρ n).1]? = some (.cells c ty (0, 0)) → ∃ c', w'.heap[(ρ n).1]? = some (.cells c' ty (0, 0)) ∧ c'.size = c.size)
    (hb' : Keeps m.length ρ I w m.length ρ I w' → holds m.length ρ I w' (ρ n) b') :
    Rep ρ I (m.set n b') w' ∧ Step ρ I m w ρ I (m.set n b') w' := by
  have hI : ∀ b : Nat, I b → w'.heap[b]? = w.heap[b]? := fun b hb => hne b (fun e => hr.notI n hl (e ▸ hb))
  have hcells : ∀ (b : Nat) (c : Array Value) (ty : TypeId), w.heap[b]? = some (.cells c ty (0, 0)) → ∃ c', w'.heap[b]? = some (.cells c' ty (0, 0)) ∧ c'.size = c.size := by
    intro b c ty hb
    by_cases h : b = (ρ n).1
    · subst h; exact hcell c ty hb
    · exact ⟨c, by rw [hne b h]; exact hb, rfl⟩
  have hk : Keeps m.length ρ I w m.length ρ I w' := ⟨Nat.le_refl _, fun _ _ => rfl, fun _ h => h, hI, hcells⟩
  have hn := Ab.live_lt hl
  refine ⟨⟨?_, ?_, ?_, ?_⟩, ⟨by simp, fun _ _ => rfl, ?_, fun _ h => h, fun _ h => .inl h, ?_, ⟨hos, htape, hout, by omega, hI, hcells⟩, fun b hb ho => hne b (fun e => ho ⟨n, hl, e.symm⟩)⟩⟩
  · intro k b hb
    rw [List.length_set]
    by_cases hkn : k = n
    · subst hkn
      rw [List.getElem?_set_self hn] at hb
      cases hb
      exact hb' hk
    · rw [List.getElem?_set_ne (fun h => hkn h.symm)] at hb
      by_cases hlv : b.live = true
      · exact (hr.blk k b hb).keep hk (hne _ (fun e => hkn (hr.inj k n ⟨b, hb, hlv⟩ hl e)))
      · cases b <;> first | trivial | exact absurd rfl hlv
  · intro k hk'
    rcases live_set hk' with ⟨rfl, _⟩ | ⟨_, h⟩
    · exact hr.notI k hl
    · exact hr.notI k h
  · intro k k' h1 h2 e
    rcases live_set h1 with ⟨g1, _⟩ | ⟨_, g1⟩ <;> rcases live_set h2 with ⟨g2, _⟩ | ⟨_, g2⟩
    · rw [g1, g2]
    · rw [g1] at e ⊢; exact hr.inj _ _ hl g2 e
    · rw [g2] at e ⊢; exact hr.inj _ _ g1 hl e
    · exact hr.inj _ _ g1 g2 e
  · intro b hb; have := hr.ilt b hb; omega
  · intro k _ h
    rcases live_set h with ⟨rfl, _⟩ | ⟨_, h⟩
    · exact hl
    · exact h
  · rintro b ⟨k, h1, h2⟩
    rcases live_set h1 with ⟨rfl, _⟩ | ⟨_, h1⟩
    · exact .inr ⟨k, hl, h2⟩
    · exact .inr ⟨k, h1, h2⟩
/-- A name is given up. -/
theorem Rep.kill (hr : Rep ρ I m w) (n : Nat) : Rep ρ I (m.set n .dead) w ∧ Step ρ I m w ρ I (m.set n .dead) w := by
  have hlv : ∀ k, live (m.set n .dead) k → k ≠ n ∧ live m k := fun k h => by
    rcases live_set h with ⟨_, h⟩ | h
    · cases h
    · exact h
  refine ⟨⟨?_, fun k h => hr.notI k (hlv k h).2, fun k k' h h' e => hr.inj k k' (hlv k h).2 (hlv k' h').2 e, hr.ilt⟩,
    ⟨by simp, fun _ _ => rfl, fun k _ h => (hlv k h).2, fun _ h => h, fun _ h => .inl h, fun b ⟨k, h, e⟩ => .inr ⟨k, (hlv k h).2, e⟩, WLe.refl _ _, fun _ _ _ => rfl⟩⟩
  intro k b hb
  rw [List.length_set]
  by_cases hkn : k = n
  · subst hkn
    have hlt : k < m.length := by have := (List.getElem?_eq_some_iff.1 hb).1; simpa using this
    rw [List.getElem?_set_self hlt] at hb
    cases hb; trivial
  · rw [List.getElem?_set_ne (fun h => hkn h.symm)] at hb
    exact hr.blk k b hb
/-- A name is given up; its block is never written again. -/
theorem Rep.freeze (hr : Rep ρ I m w) {n : Nat} (hl : live m n) :
    Rep ρ (fun b => I b ∨ b = (ρ n).1) (m.set n .dead) w ∧ Step ρ I m w ρ (fun b => I b ∨ b = (ρ n).1) (m.set n .dead) w := by
  have hlv : ∀ k, live (m.set n .dead) k → k ≠ n ∧ live m k := fun k h => by
    rcases live_set h with ⟨_, h⟩ | h
    · cases h
    · exact h
  have hk : Keeps m.length ρ I w m.length ρ (fun b => I b ∨ b = (ρ n).1) w := ⟨Nat.le_refl _, fun _ _ => rfl, fun _ h => .inl h, fun _ _ => rfl, fun _ c _ h => ⟨c, h, rfl⟩⟩
  refine ⟨⟨?_, ?_, fun k k' h h' e => hr.inj k k' (hlv k h).2 (hlv k' h').2 e, ?_⟩,
    ⟨by simp, fun _ _ => rfl, fun k _ h => (hlv k h).2, fun _ h => .inl h, ?_, fun b ⟨k, h, e⟩ => .inr ⟨k, (hlv k h).2, e⟩, WLe.refl _ _, fun _ _ _ => rfl⟩⟩
  · intro k b hb
    rw [List.length_set]
    by_cases hkn : k = n
    · subst hkn
      have hlt : k < m.length := by have := (List.getElem?_eq_some_iff.1 hb).1; simpa using this
      rw [List.getElem?_set_self hlt] at hb
      cases hb; trivial
    · rw [List.getElem?_set_ne (fun h => hkn h.symm)] at hb
      exact (hr.blk k b hb).keep hk rfl
  · rintro k h (h1 | h1)
    · exact hr.notI k (hlv k h).2 h1
    · exact (hlv k h).1 (hr.inj k n (hlv k h).2 hl h1)
  · rintro b (h | rfl)
    · exact hr.ilt b h
    · exact hr.live_lt hl
  · rintro b (h | rfl)
    · exact .inl h
    · exact .inr (.inr ⟨n, hl, rfl⟩)
def Pl.put (ρ : Pl) (n : Nat) (p : Nat × Nat) : Pl := fun k => if k = n then p else ρ k
theorem Pl.put_self (ρ : Pl) (n : Nat) (p : Nat × Nat) : ρ.put n p n = p := by simp [Pl.put]
theorem Pl.put_lt (ρ : Pl) {n k : Nat} (p : Nat × Nat) (h : k < n) : ρ.put n p k = ρ k := by simp [Pl.put]; omega
theorem heap_push_lt (w : World) (o : Obj) {k : Nat} (h : k < w.heap.size) : (w.alloc o).heap[k]? = w.heap[k]? := by rw [show (w.alloc o).heap = w.heap.push o from rfl, Array.getElem?_push, if_neg (Nat.ne_of_lt h)]
theorem Keeps.alloc {N : Nat} (w : World) (o : Obj) (p : Nat × Nat) (hi : ∀ b, I b → b < w.heap.size) : Keeps N ρ I w (N + 1) (ρ.put N p) I (w.alloc o) :=
  ⟨by omega, fun n h => Pl.put_lt ρ p h, fun _ h => h, fun b hb => heap_push_lt w o (hi b hb),
   fun b c ty hb => ⟨c, by rw [heap_push_lt w o (Array.getElem?_eq_some_iff.1 hb).1]; exact hb, rfl⟩⟩
theorem live_snoc {m : Mem} {b : B} {k : Nat} (h : live (m ++ [b]) k) : (k = m.length ∧ b.live = true) ∨ live m k := by
  obtain ⟨c, hc, hl⟩ := h
  rcases Nat.lt_trichotomy k m.length with h | h | h
  · rw [List.getElem?_append_left h] at hc
    exact .inr ⟨c, hc, hl⟩
  · subst h
    simp at hc
    subst hc
    exact .inl ⟨rfl, hl⟩
  · rw [List.getElem?_eq_none (by simp; omega)] at hc
    cases hc
/-- A new block. -/
theorem Rep.alloc (hr : Rep ρ I m w) (o : Obj) (b : B)
    (hb : Keeps m.length ρ I w (m.length + 1) (ρ.put m.length (w.heap.size, 0)) I (w.alloc o) → holds (m.length + 1) (ρ.put m.length (w.heap.size, 0)) I (w.alloc o) (w.heap.size, 0) b) :
    Rep (ρ.put m.length (w.heap.size, 0)) I (m ++ [b]) (w.alloc o) ∧ Step ρ I m w (ρ.put m.length (w.heap.size, 0)) I (m ++ [b]) (w.alloc o) := by
  have hk := Keeps.alloc (N := m.length) (ρ := ρ) w o (w.heap.size, 0) hr.ilt
  have hlen : (m ++ [b]).length = m.length + 1 := by simp
  refine ⟨⟨?_, ?_, ?_, ?_⟩, ⟨by simp, hk.rho, ?_, fun _ h => h, fun _ h => .inl h, ?_, ⟨rfl, rfl, rfl, by simp, hk.imm, hk.cells⟩, fun k h _ => heap_push_lt w o h⟩⟩
  · intro n c hc
    rw [hlen]
    by_cases hn : n < m.length
    · rw [List.getElem?_append_left hn] at hc
      rw [Pl.put_lt ρ _ hn]
      by_cases hl : c.live = true
      · exact (hr.blk n c hc).keep hk (heap_push_lt w o ((hr.blk n c hc).lt hl))
      · cases c <;> first | trivial | exact absurd rfl hl
    · have hn' : n = m.length := by
        have := (List.getElem?_eq_some_iff.1 hc).1
        simp at this; omega
      subst hn'
      simp at hc
      subst hc
      rw [Pl.put_self]
      exact hb hk
  · intro k h
    rcases live_snoc h with ⟨rfl, _⟩ | h
    · rw [Pl.put_self]
      exact fun h => absurd (hr.ilt _ h) (Nat.lt_irrefl _)
    · rw [Pl.put_lt ρ _ (Ab.live_lt h)]
      exact hr.notI k h
  · intro k k' h h' e
    rcases live_snoc h with ⟨rfl, _⟩ | h <;> rcases live_snoc h' with ⟨rfl, _⟩ | h'
    · rfl
    · rw [Pl.put_self, Pl.put_lt ρ _ (Ab.live_lt h')] at e
      have := hr.live_lt h'
      simp at e; omega
    · rw [Pl.put_self, Pl.put_lt ρ _ (Ab.live_lt h)] at e
      have := hr.live_lt h
      simp at e; omega
    · rw [Pl.put_lt ρ _ (Ab.live_lt h), Pl.put_lt ρ _ (Ab.live_lt h')] at e
      exact hr.inj k k' h h' e
  · intro k h
    have := hr.ilt k h
    simp; omega
  · intro k hn h
    rcases live_snoc h with ⟨rfl, _⟩ | h
    · exact absurd hn (Nat.lt_irrefl _)
    · exact h
  · rintro k ⟨n, h, e⟩
    rcases live_snoc h with ⟨rfl, _⟩ | h
    · rw [Pl.put_self] at e
      exact .inl (by simp at e; omega)
    · rw [Pl.put_lt ρ _ (Ab.live_lt h)] at e
      exact .inr ⟨n, h, e⟩
/-- A block goes on under a new name (its old one is given up), at a place in the same block. -/
theorem Rep.rename (hr : Rep ρ I m w) {n : Nat} (hl : live m n) (p : Nat × Nat) (hp : p.1 = (ρ n).1) (b : B)
    (hb : Keeps m.length ρ I w (m.length + 1) (ρ.put m.length p) I w → holds (m.length + 1) (ρ.put m.length p) I w p b) :
    Rep (ρ.put m.length p) I (m.set n .dead ++ [b]) w ∧ Step ρ I m w (ρ.put m.length p) I (m.set n .dead ++ [b]) w := by
  have hk : Keeps m.length ρ I w (m.length + 1) (ρ.put m.length p) I w := ⟨by omega, fun k h => Pl.put_lt ρ p h, fun _ h => h, fun _ _ => rfl, fun _ c _ h => ⟨c, h, rfl⟩⟩
  have hsl : (m.set n .dead).length = m.length := by simp
  have hlv : ∀ k, live (m.set n .dead ++ [b]) k → k = m.length ∨ (k ≠ n ∧ live m k) := by
    intro k h
    rcases live_snoc h with ⟨h, _⟩ | h
    · exact .inl (by rw [h, hsl])
    · rcases live_set h with ⟨_, h⟩ | h
      · cases h
      · exact .inr h
  refine ⟨⟨?_, ?_, ?_, hr.ilt⟩, ⟨by simp, hk.rho, ?_, fun _ h => h, fun _ h => .inl h, ?_, WLe.refl _ _, fun _ _ _ => rfl⟩⟩
  · intro k c hc
    have hlen : (m.set n .dead ++ [b]).length = m.length + 1 := by simp
    rw [hlen]
    by_cases hn : k < m.length
    · rw [List.getElem?_append_left (by rw [hsl]; exact hn)] at hc
      rw [Pl.put_lt ρ _ hn]
      by_cases hkn : k = n
      · subst hkn
        rw [List.getElem?_set_self hn] at hc
        cases hc; trivial
      · rw [List.getElem?_set_ne (fun h => hkn h.symm)] at hc
        exact (hr.blk k c hc).keep hk rfl
    · have hn' : k = m.length := by
        have := (List.getElem?_eq_some_iff.1 hc).1
        rw [hlen] at this; omega
      subst hn'
      rw [List.getElem?_append_right (by rw [hsl]; exact Nat.le_refl _)] at hc
      simp at hc
      subst hc
      rw [Pl.put_self]
      exact hb hk
  · intro k h
    rcases hlv k h with rfl | ⟨_, h⟩
    · rw [Pl.put_self, hp]; exact hr.notI n hl
    · rw [Pl.put_lt ρ _ (Ab.live_lt h)]; exact hr.notI k h
  · intro k k' h h' e
    rcases hlv k h with rfl | ⟨hkn, h⟩ <;> rcases hlv k' h' with rfl | ⟨hkn', h'⟩
    · rfl
    · rw [Pl.put_self, Pl.put_lt ρ _ (Ab.live_lt h'), hp] at e
      exact absurd (hr.inj n k' hl h' e).symm hkn'
    · rw [Pl.put_self, Pl.put_lt ρ _ (Ab.live_lt h), hp] at e
      exact absurd (hr.inj k n h hl e) hkn
    · rw [Pl.put_lt ρ _ (Ab.live_lt h), Pl.put_lt ρ _ (Ab.live_lt h')] at e
      exact hr.inj k k' h h' e
  · intro k hn h
    rcases hlv k h with rfl | ⟨_, h⟩
    · exact absurd hn (Nat.lt_irrefl _)
    · exact h
  · rintro k ⟨j, h, e⟩
    rcases hlv j h with rfl | ⟨_, h⟩
    · rw [Pl.put_self, hp] at e
      exact .inr ⟨n, hl, e⟩
    · rw [Pl.put_lt ρ _ (Ab.live_lt h)] at e
      exact .inr ⟨j, h, e⟩
end
end Go.Proofs.Ytjjenpdjmcmgbaa.Ab
namespace Go.Proofs.Ytjjenpdjmcmgbaa.Ab
open Go
set_option linter.unusedSimpArgs false
set_option linter.unusedVariables false
def cellV : Value → V
  | .bool b => .bool b
  | .int k n => .int k n
  | .string s => .str s
  | .pointer none => .nilp
  | .slice none 0 0 => .nils
  | .map none => .nilm
  | .nilFunc => .nilf
  | .nilIface => .nili
  | _ => .unk
def one1 : Value → Bool
  | .agg _ => false
  | .tuple _ => false
  | _ => true
theorem one1_iff {v : Value} (h : one1 v = true) : v.oneCell' = true := by cases v <;> first | rfl | (simp [one1] at h)
def constV : Value → V
  | .agg cs => bif cs.toList.all one1 then .agg (cs.toList.map cellV) else .unk
  | .tuple cs => .tup (cs.toList.map cellV)
  | .func (.func f) a b => if a.isEmpty && b.isEmpty then .fn f [] [] else .unk
  | v => cellV v
theorem RV_cellV (N : Nat) (ρ : Pl) (I : Nat → Prop) (w : World) (v : Value) : RV N ρ I w (cellV v) v := by
  unfold cellV
  split <;> simp [RV]
theorem RV_constV (N : Nat) (ρ : Pl) (I : Nat → Prop) (w : World) (v : Value) : RV N ρ I w (constV v) v := by
  unfold constV
  split
  · rename_i cs
    cases hc : cs.toList.all one1 with
    | false => simp [RV]
    | true =>
      simp only [cond_true, RV]
      refine ⟨cs, rfl, by simp, Rc.mk fun i v hv => ?_⟩
      simp only [List.getElem?_map, Option.map_eq_some_iff] at hv
      obtain ⟨x, h1, rfl⟩ := hv
      exact ⟨x, by simpa using h1, one1_iff (List.all_eq_true.1 hc x (List.mem_of_getElem? h1)), RV_cellV _ _ _ _ _⟩
  · rename_i cs
    simp only [RV]
    refine ⟨cs, rfl, by simp, Rt.mk fun i v hv => ?_⟩
    simp only [List.getElem?_map, Option.map_eq_some_iff] at hv
    obtain ⟨x, h1, rfl⟩ := hv
    exact ⟨x, by simpa using h1, RV_cellV _ _ _ _ _⟩
  · rename_i f a b
    split
    · rename_i h
      simp only [Bool.and_eq_true, Array.isEmpty_iff] at h
      obtain ⟨rfl, rfl⟩ := h
      simp only [RV]
      exact ⟨#[], #[], rfl, rfl, by simp [Rt], rfl, by simp [Rt]⟩
    · simp [RV]
  · exact RV_cellV _ _ _ _ _
abbrev Env := Nat → V
def upd (e : Env) (d : Nat) (v : V) : Env := fun t => bif Nat.beq d t then v else e t
def put (e : Env) (d : Option Nat) (v : V) : Env := match d with
  | some d => upd e d v
  | none => e
def evO (e : Env) : Operand → V
  | .tmp t => e t
  | .const v => constV v
  | .global _ => .unk
  | .func f => .fn f [] []
/-- The scalar's own value. -/
def toVal : V → Option Value
  | .bool b => some (.bool b)
  | .int k n => some (.int k n)
  | .str s => some (.string s)
  | _ => none
theorem RV_toVal {N : Nat} {ρ : Pl} {I : Nat → Prop} {w : World} {v : V} {x y : Value} (h : RV N ρ I w v x) (hv : toVal v = some y) : x = y := by
  cases v <;> simp_all [toVal, RV]
def litsV (P : Program) (t : TypeId) (l : List V) : Option (List Lit) := (l.mapM toVal).bind (P.keyLits 9 t)
def litEq : Lit → Lit → Bool
  | .bool a, .bool b => a == b
  | .int j a, .int k b => decide (j = k) && decide (a = b)
  | .float j a, .float k b => decide (j = k) && decide (a = b)
  | .string a, .string b => a == b
  | .nil, .nil => true
  | _, _ => false
theorem litEq_iff (a b : Lit) : litEq a b = true ↔ a = b := by
  cases a <;> cases b <;> simp [litEq]
def litsEq : List Lit → List Lit → Bool
  | [], [] => true
  | a :: r, b :: s => litEq a b && litsEq r s
  | _, _ => false
theorem litsEq_iff : ∀ (a b : List Lit), litsEq a b = true ↔ a = b
  | [], [] => by simp [litsEq]
  | [], _ :: _ => by simp [litsEq]
  | _ :: _, [] => by simp [litsEq]
  | a :: r, b :: s => by simp [litsEq, litEq_iff, litsEq_iff r s]
def isAggT (P : Program) (t : TypeId) : Bool := match P.underlying t with
  | some (.struct _) | some (.array _ _) => true
  | _ => false
def isBoolT (P : Program) (t : TypeId) : Bool := match P.underlying t with
  | some .bool => true
  | _ => false
def eqV (P : Program) (t : TypeId) : V → V → Option Bool
  | .bool a, .bool b => bif isBoolT P t then some (a == b) else none
  | .agg a, .agg b => bif P.keyTypeAt 8 t && (!P.eqGuardType P.depth t && isAggT P t) then
      match litsV P t a, litsV P t b with
      | some la, some lb => some (litsEq la lb)
      | _, _ => none
    else none
  | .nilp, .nilp => match P.underlying t with | some (.pointer _) => some true | _ => none
  | .nilp, .ptr _ _ => match P.underlying t with | some (.pointer _) => some false | _ => none
  | .ptr _ _, .nilp => match P.underlying t with | some (.pointer _) => some false | _ => none
  | .ep _ _ _ _, .nilp => match P.underlying t with | some (.pointer _) => some false | _ => none
  | .nils, .nils => match P.underlying t with | some (.slice _) => some true | _ => none
  | .sl _ _ _ _, .nils => match P.underlying t with | some (.slice _) => some false | _ => none
  | .isl _ (_ :: _), .nils => match P.underlying t with | some (.slice _) => some false | _ => none
  | .nilm, .nilm => match P.underlying t with | some (.map _ _) => some true | _ => none
  | .mp _, .nilm => match P.underlying t with | some (.map _ _) => some false | _ => none
  | .nilf, .nilf => match P.underlying t with | some (.func _ _ _) => some true | _ => none
  | .fn _ _ _, .nilf => match P.underlying t with | some (.func _ _ _) => some false | _ => none
  | .nili, .nili => match P.underlying t with | some (.interface ms) => bif ms.isEmpty then some true else none | _ => none
  | .ifc _ _, .nili => match P.underlying t with | some (.interface _) => some false | _ => none
  | _, _ => none
def binV (P : Program) (op : BinOp) (t : TypeId) : V → V → Option V
  | .int k a, .int k' b => match op with
    | .shl => if b < 0 then none else some (.int k (k.wrap (a * 2 ^ (min b.toNat k.bits))))
    | .shr => if b < 0 then none else some (.int k (a.fdiv (2 ^ (min b.toNat k.bits))))
    | op => if k = k' then match op with
      | .add => some (.int k (k.wrap (a + b)))
      | .sub => some (.int k (k.wrap (a - b)))
      | .mul => some (.int k (k.wrap (a * b)))
      | .quo => if b = 0 then none else some (.int k (k.wrap (a.tdiv b)))
      | .rem => if b = 0 then none else some (.int k (a.tmod b))
      | .and => some (.int k (bits .and k a b))
      | .or => some (.int k (bits .or k a b))
      | .xor => some (.int k (bits .xor k a b))
      | .andNot => some (.int k (bits .andNot k a b))
      | .eql => some (.bool (a == b))
      | .neq => some (.bool (a != b))
      | .lss => some (.bool (decide (a < b)))
      | .leq => some (.bool (decide (a ≤ b)))
      | .gtr => some (.bool (decide (a > b)))
      | .geq => some (.bool (decide (a ≥ b)))
      | _ => none
      else none
  | .str a, .str b => match op with
    | .eql => some (.bool (a.toList == b.toList))
    | .neq => some (.bool (!(a.toList == b.toList)))
    | _ => none
  | x, y => match op with
    | .eql => (eqV P t x y).map .bool
    | .neq => (eqV P t x y).map fun b => .bool (!b)
    | _ => none
section
variable {P : Program} {N : Nat} {ρ : Pl} {I : Nat → Prop} {w : World}
theorem mapM_toVal : ∀ {l : List V} {c : Array Value} {o : Nat} {xs : List Value}, Rc N ρ I w l c o → l.mapM toVal = some xs → (c.toList.drop o).take l.length = xs
  | [], c, o, xs, _, h => by simp at h; simp [h]
  | v :: r, c, o, xs, hr, h => by
    rw [List.mapM_cons] at h
    simp only [bind, Option.bind_eq_some_iff, pure, Option.some.injEq] at h
    obtain ⟨y, h1, ys, h2, rfl⟩ := h
    simp only [Rc] at hr
    obtain ⟨⟨x, h3, _, h4⟩, h5⟩ := hr
    have := mapM_toVal h5 h2
    have hx := RV_toVal h4 h1
    subst hx
    have hd : c.toList.drop o = x :: c.toList.drop (o + 1) := by
      have hlt : o < c.toList.length := by
        have := (Array.getElem?_eq_some_iff.1 h3).1
        simpa using this
      rw [List.drop_eq_getElem_cons hlt]
      congr 1
      have := (Array.getElem?_eq_some_iff.1 h3).2
      simpa using this
    rw [hd, List.length_cons, List.take_succ_cons, this]
theorem litsV_sound {t : TypeId} {l : List V} {c : Array Value} {ls : List Lit} (hlen : l.length = c.size) (hr : Rc N ρ I w l c 0) (h : litsV P t l = some ls) : P.keyLits 9 t c.toList = some ls := by
  unfold litsV at h
  simp only [Option.bind_eq_some_iff] at h
  obtain ⟨xs, h1, h2⟩ := h
  have := mapM_toVal hr h1
  rw [List.drop_zero, hlen, ← Array.length_toList, List.take_length] at this
  rw [this]; exact h2
theorem formed_of_lits {t : TypeId} {c : Array Value} {ls : List Lit} (h : P.keyLits 9 t c.toList = some ls) (hk : isAggT P t = true) : (Value.agg c).formed P t = true := by
  unfold isAggT at hk
  unfold Program.keyLits at h
  split at hk
  · rename_i fs hu
    rw [hu] at h
    simp only at h
    split at h
    · rename_i hc; simp [Value.formed, hu]; simpa using hc.1
    · cases h
  · rename_i n e hu
    rw [hu] at h
    simp only at h
    split at h
    · rename_i hc; simp [Value.formed, hu]; simpa using hc
    · cases h
  · cases hk
theorem equal_agg {t : TypeId} {a b : Array Value} {la lb : List Lit} (ha : P.keyLits 9 t a.toList = some la) (hb : P.keyLits 9 t b.toList = some lb)
    (hk : isAggT P t = true) (hk2 : P.keyTypeAt 8 t = true) : (Op.equal t (.agg a) (.agg b)).run P w = .ok (litsEq la lb) w := by
  obtain ⟨r, h1, h2⟩ := run_equalIn_deep (P := P) 9992 8 t hk2 w 9 9 (.agg a) (.agg b) la lb (formed_of_lits ha hk) (formed_of_lits hb hk) ha hb
  have : r = litsEq la lb := by
    rw [Bool.eq_iff_iff, h2, litsEq_iff]
  rw [← this]
  exact h1
theorem equal_at (t : TypeId) (a b : Value) (r : Bool) (h : ∀ d, (Op.equalIn (d + 1) t a b).run P w = .ok r w) : (Op.equal t a b).run P w = .ok r w := h 9999
theorem guard_plain (op : BinOp) (t : TypeId) (ox oy : Operand) (a b : Value) (h : (match a, b with | .nilIface, .nilIface | .agg _, .agg _ => false | _, _ => true) = true) :
    (eqGuard op t ox oy a b).run P w = .ok () w := by
  cases op <;> simp [eqGuard] <;> (split <;> simp_all)
/-- Operands that are compared: what '==' gives, and that the guard ahead of it lets them by. -/
structure Eqs (P : Program) (w : World) (t : TypeId) (a b : Value) (r : Bool) : Prop where
  equal : (Op.equal t a b).run P w = .ok r w
  guard : ∀ op ox oy, (eqGuard op t ox oy a b).run P w = .ok () w
  eql : (binOp .eql t a b).run P w = .ok (.bool r) w
  neq : (binOp .neq t a b).run P w = .ok (.bool (!r)) w
theorem eqV_sound {t : TypeId} {x y : V} {a b : Value} {r : Bool} (ha : RV N ρ I w x a) (hb : RV N ρ I w y b) (h : eqV P t x y = some r) : Eqs P w t a b r := by
  have fin : ∀ {a b : Value} {r : Bool}, (Op.equal t a b).run P w = .ok r w → (∀ op ox oy, (eqGuard op t ox oy a b).run P w = .ok () w) →
      binOp .eql t a b = (do pure (.bool (← Op.equal t a b))) → binOp .neq t a b = (do pure (.bool (!(← Op.equal t a b)))) → Eqs P w t a b r :=
    fun h1 h2 h3 h4 => ⟨h1, h2, by rw [h3]; simp [h1], by rw [h4]; simp [h1]⟩
  unfold eqV at h
  split at h
  · simp only [RV] at ha hb
    subst ha; subst hb
    unfold isBoolT at h
    split at h
    · rename_i hu
      simp only [cond_true, Option.some.injEq] at h
      subst h
      exact fin (equal_at _ _ _ _ fun d => by simp [Op.equalIn, run_underlying hu]) (fun _ _ _ => guard_plain _ _ _ _ _ _ rfl) rfl rfl
    · simp at h
  · simp only [RV] at ha hb
    obtain ⟨ca, rfl, h1, h2⟩ := ha
    obtain ⟨cb, rfl, h3, h4⟩ := hb
    cases hc : P.keyTypeAt 8 t && (!P.eqGuardType P.depth t && isAggT P t) with
    | false => rw [hc] at h; simp at h
    | true =>
      rw [hc] at h
      simp only [cond_true] at h
      simp only [Bool.and_eq_true, Bool.not_eq_true'] at hc
      split at h
      · rename_i la lb hla hlb
        cases h
        exact fin (equal_agg (litsV_sound h1 h2 hla) (litsV_sound h3 h4 hlb) hc.2.2 hc.1) (fun op ox oy => run_eqGuard_agg w op t ox oy ca cb hc.2.1) rfl rfl
      · cases h
  all_goals
    first
    | (cases h; done)
    | skip
  all_goals
    split at h
    · rename_i hu
      try
        rename_i ms
        cases hms : ms.isEmpty with
        | false => rw [hms] at h; cases h
        | true =>
          rw [hms] at h
          simp only [cond_true, Option.some.injEq] at h
          subst h
          simp only [RV] at ha hb
          subst ha; subst hb
          refine fin (equal_at _ _ _ _ fun d => by simp [Op.equalIn, run_underlying hu]) (fun op ox oy => ?_) rfl rfl
          have hg : (Op.eqGuardIn Op.maxDepth t .nilIface .nilIface).run P w = .ok false w := by
            have gen : ∀ d, (Op.eqGuardIn (d + 1) t .nilIface .nilIface).run P w = .ok false w := fun d => by simp [Op.eqGuardIn, run_underlying hu, hms]
            exact gen (Op.maxDepth - 1)
          cases op <;> simp [eqGuard] <;> (split <;> simp_all)
      all_goals
       cases h
       simp only [RV] at ha hb
       first
       | (obtain ⟨_, _, ha, _, h0⟩ := ha; rcases h0 with h0 | ⟨_, _, _, _, _, h0, _⟩ <;> first | (cases h0; done) | (subst h0; subst ha; subst hb; exact fin (equal_at _ _ _ _ fun d => by simp [Op.equalIn, run_underlying hu]) (fun _ _ _ => guard_plain _ _ _ _ _ _ rfl) rfl rfl))
       | (obtain ⟨_, ha⟩ := ha; obtain ⟨_, hb⟩ := hb; subst ha; subst hb; exact fin (equal_at _ _ _ _ fun d => by simp [Op.equalIn, run_underlying hu]) (fun _ _ _ => guard_plain _ _ _ _ _ _ rfl) rfl rfl)
       | (obtain ⟨_, ha⟩ := ha; subst ha; subst hb; exact fin (equal_at _ _ _ _ fun d => by simp [Op.equalIn, run_underlying hu]) (fun _ _ _ => guard_plain _ _ _ _ _ _ rfl) rfl rfl)
       | (obtain ⟨_, hb⟩ := hb; subst ha; subst hb; exact fin (equal_at _ _ _ _ fun d => by simp [Op.equalIn, run_underlying hu]) (fun _ _ _ => guard_plain _ _ _ _ _ _ rfl) rfl rfl)
       | (subst ha; subst hb; exact fin (equal_at _ _ _ _ fun d => by simp [Op.equalIn, run_underlying hu]) (fun _ _ _ => guard_plain _ _ _ _ _ _ rfl) rfl rfl)
       | (obtain ⟨_, _, _, ha, _⟩ := ha; subst ha; subst hb; exact fin (equal_at _ _ _ _ fun d => by simp [Op.equalIn, run_underlying hu]) (fun _ _ _ => guard_plain _ _ _ _ _ _ rfl) rfl rfl)
       | (obtain ⟨_, _, ha, _⟩ := ha; subst ha; subst hb; exact fin (equal_at _ _ _ _ fun d => by simp [Op.equalIn, run_underlying hu]) (fun _ _ _ => guard_plain _ _ _ _ _ _ rfl) rfl rfl)
       | (obtain ⟨_, ha, _⟩ := ha; subst ha; subst hb; exact fin (equal_at _ _ _ _ fun d => by simp [Op.equalIn, run_underlying hu]) (fun _ _ _ => guard_plain _ _ _ _ _ _ rfl) rfl rfl)
    · cases h
theorem binV_sound {op : BinOp} {t : TypeId} {x y : V} {a b : Value} {v : V} (ha : RV N ρ I w x a) (hb : RV N ρ I w y b) (h : binV P op t x y = some v) (ox oy : Operand) :
    ∃ c, (do eqGuard op t ox oy a b; binOp op t a b : Sem Value).run P w = .ok c w ∧ RV N ρ I w v c := by
  unfold binV at h
  split at h
  · simp only [RV] at ha hb
    subst ha; subst hb
    have hg : ∀ op ox oy, ∀ k a k' b, (eqGuard op t ox oy (.int k a) (.int k' b)).run P w = .ok () w := fun op ox oy k a k' b => guard_plain op t ox oy _ _ rfl
    simp only [Sem.run_bind, hg, Result.andThen_ok]
    split at h
    · split at h
      · cases h
      · rename_i hn
        cases h
        refine ⟨_, ?_, rfl⟩
        simp [binOp, Op.shift, hn]
    · split at h
      · cases h
      · rename_i hn
        cases h
        refine ⟨_, ?_, rfl⟩
        simp [binOp, Op.shift, hn]
    · rename_i h1 h2
      split at h
      · rename_i hk
        subst hk
        cases op <;> first
          | (exact absurd rfl h1)
          | (exact absurd rfl h2)
          | skip
        all_goals simp only at h
        case quo => split at h
                    · cases h
                    · rename_i hz; cases h; exact ⟨_, by simp [binOp, Op.intDiv, hz], rfl⟩
        case rem => split at h
                    · cases h
                    · rename_i hz; cases h; exact ⟨_, by simp [binOp, Op.intDiv, hz], rfl⟩
        all_goals
          cases h
          exact ⟨_, by simp [binOp, Op.intArith, Op.intCmp, intBits_and, intBits_or, intBits_xor, intBits_andNot]; try rfl, rfl⟩
      · cases h
  · simp only [RV] at ha hb
    subst ha; subst hb
    simp only [Sem.run_bind, guard_plain op t ox oy (.string _) (.string _) rfl, Result.andThen_ok]
    split at h
    · cases h
      exact ⟨_, by simp [binOp, Op.stringOp], rfl⟩
    · cases h
      exact ⟨_, by simp [binOp, Op.stringOp], rfl⟩
    · cases h
  · split at h
    · rw [Option.map_eq_some_iff] at h
      obtain ⟨r, h1, rfl⟩ := h
      have e := eqV_sound ha hb h1
      exact ⟨.bool r, by simp [Sem.run_bind, e.guard, e.eql], rfl⟩
    · rw [Option.map_eq_some_iff] at h
      obtain ⟨r, h1, rfl⟩ := h
      have e := eqV_sound ha hb h1
      exact ⟨.bool (!r), by simp [Sem.run_bind, e.guard, e.neq], rfl⟩
    · cases h
def unV : UnOp → V → Option V
  | .not, .bool b => some (.bool (!b))
  | .neg, .int k n => some (.int k (k.wrap (0 - n)))
  | .xor, .int k n => some (.int k (bits .xor k (if k.signed then -1 else k.max) n))
  | _, _ => none
theorem unV_sound {op : UnOp} {x v : V} {a : Value} (ha : RV N ρ I w x a) (h : unV op x = some v) : ∃ c, (Op.unary op a).run P w = .ok c w ∧ RV N ρ I w v c := by
  unfold unV at h
  split at h <;> first
    | (cases h; done)
    | (simp only [RV] at ha; subst ha; cases h; exact ⟨_, by simp [Op.unary, Op.intArith, intBits_xor], rfl⟩)
/-- Bytes, told by numbers. -/
def numsV : List (List V) → Option (List Int)
  | [] => some []
  | [.int .u8 n] :: r => (numsV r).map (n :: ·)
  | _ :: _ => none
theorem numsV_spec : ∀ {es : List (List V)} {xs : List Int}, numsV es = some xs → es = xs.map fun n => [V.int .u8 n]
  | [], xs, h => by simp only [numsV, Option.some.injEq] at h; subst h; rfl
  | e :: r, xs, h => by
    unfold numsV at h
    split at h
    · rename_i h1; cases h1
    · rename_i n r' h1
      cases h1
      rw [Option.map_eq_some_iff] at h
      obtain ⟨ys, h2, rfl⟩ := h
      rw [List.map_cons, ← numsV_spec h2]
    · cases h
def convV (P : Program) (src dst : TypeId) : V → Option V
  | .int k n => match P.underlying src, P.underlying dst with
    | some _, some (.int k') => some (.int k' (k'.wrap n))
    | _, _ => none
  | .isl sz es => match P.underlying src, P.underlying dst with
    | some (.slice e), some .string => (match P.underlying e with
      | some (.int .u8) => if sz = 1 then (numsV es).map fun xs => .str (strOfNums xs) else none
      | _ => none)
    | _, _ => none
  | .nils => match P.underlying src, P.underlying dst with
    | some (.slice e), some .string => (match P.underlying e with
      | some (.int .u8) => some (.str ByteArray.empty)
      | _ => none)
    | _, _ => none
  | _ => none
theorem convV_sound {src dst : TypeId} {x v : V} {a : Value} (ha : RV N ρ I w x a) (h : convV P src dst x = some v) : ∃ c, (convert src dst a).run P w = .ok c w ∧ RV N ρ I w v c := by
  unfold convV at h
  split at h
  · simp only [RV] at ha
    subst ha
    split at h
    · rename_i h1 h2
      cases h
      exact ⟨_, by simp [convert, run_underlying h1, run_underlying h2, Conv.intToInt], rfl⟩
    · cases h
  · rename_i sz es
    split at h
    · rename_i e h1 h2
      split at h
      · rename_i h3
        split at h
        · rename_i hs
          subst hs
          rw [Option.map_eq_some_iff] at h
          obtain ⟨xs, hx, rfl⟩ := h
          have hes := numsV_spec hx
          have hlen : es.length = xs.length := by rw [hes, List.length_map]
          simp only [RV] at ha
          obtain ⟨ad, cap, rfl, _, h5⟩ := ha
          have hnil : xs = [] → ∀ ad : Option Addr, ∃ c, (convert src dst (.slice ad xs.length cap)).run P w = .ok c w ∧ RV N ρ I w (.str (strOfNums xs)) c := by
            rintro rfl ad
            cases ad with
            | none => exact ⟨_, run_convert_bytes_nil w src e h1 h3 _ _ dst h2, by simp only [RV]; rfl⟩
            | some ad =>
              obtain ⟨b, o, pth⟩ := ad
              refine ⟨.string (strOfNums []), ?_, by simp only [RV]⟩
              rw [run_convert_bytes_string w src dst e _ _ cap h1 h3 h2, run_bytesToString w _ _ cap [] (by simp [loadCells, loadCellsFrom])]
              rfl
          rw [hlen]
          rcases h5 with h5 | ⟨b, o, c, ty, fr, rfl, _, h6, h7⟩
          · exact hnil (by rw [h5] at hlen; exact List.length_eq_zero_iff.1 (by simpa using hlen.symm)) ad
          · refine ⟨_, run_convert_bytes_arg w src e h1 h3 b o xs.length cap xs rfl (fun i hi => ?_) dst h2, by simp only [RV]⟩
            rw [cell_of_row w b _ c ty fr h6]
            have hget : es[i]? = some [V.int .u8 xs[i]] := by rw [hes]; simp [hi]
            obtain ⟨_, q⟩ := h7.1.get i _ hget
            obtain ⟨y, q1, _, q2⟩ := q.get 0 _ rfl
            simp only [RV] at q2
            subst q2
            rw [Nat.mul_one, Nat.add_zero] at q1
            rw [q1]
            simp [List.getD, hi]
        · cases h
      · cases h
    · cases h
  · split at h
    · rename_i e h1 h2
      split at h
      · rename_i h3
        cases h
        simp only [RV] at ha
        subst ha
        exact ⟨_, run_convert_bytes_nil w src e h1 h3 _ _ dst h2, by simp only [RV]⟩
      · cases h
    · cases h
  · cases h
/-- What an interface holds, asked for a type that is none. -/
def assertV (P : Program) (t : TypeId) : V → Option V
  | .ifc u v => match P.underlying t with
    | some (.interface _) => none
    | some _ => if u = t then some (.tup [v, .bool true]) else none
    | none => none
  | _ => none
theorem assertV_sound {xt t : TypeId} {x v : V} {a : Value} (ha : RV N ρ I w x a) (h : assertV P t x = some v) : ∃ c, (Instr.typeAssert a xt t true).run P w = .ok c w ∧ RV N ρ I w v c := by
  unfold assertV at h
  split at h
  · rename_i u y
    simp only [RV] at ha
    obtain ⟨z, rfl, hz⟩ := ha
    split at h
    · cases h
    · rename_i d hni hu
      split at h
      · rename_i hut
        subst hut
        cases h
        refine ⟨.tuple #[z, .bool true], ?_, ?_⟩
        · unfold Instr.typeAssert
          rw [Sem.run_bind, run_underlying hu]
          simp only [Result.andThen_ok]
          cases d <;> first | (exact absurd rfl (hni _)) | simp
        · simp only [RV]
          exact ⟨_, rfl, rfl, Rt.mk fun i w' hw => by
            match i, hw with
            | 0, hw => cases hw; exact ⟨z, rfl, hz⟩
            | 1, hw => cases hw; exact ⟨.bool true, rfl, by simp only [RV]⟩⟩
      · cases h
    · cases h
  · cases h
def extractV (i : Nat) : V → Option V
  | .tup l => l[i]?
  | _ => none
theorem extractV_sound {i : Nat} {x v : V} {a : Value} (ha : RV N ρ I w x a) (h : extractV i x = some v) : ∃ c, (Instr.extract a i).run P w = .ok c w ∧ RV N ρ I w v c := by
  unfold extractV at h
  split at h
  · simp only [RV] at ha
    obtain ⟨c, rfl, h1, h2⟩ := ha
    obtain ⟨y, h3, h4⟩ := h2.get i v h
    exact ⟨y, by simp only [Nat.zero_add] at h3; simp [Instr.extract, h3], h4⟩
  · cases h
/-- A part of cells, by a type. -/
def partV (P : Program) (t : TypeId) (l : List V) (off : Nat) : Option V :=
  bif isAggT P t then
    match P.info? t with
    | some i => if off + i.size ≤ l.length then some (.agg ((l.drop off).take i.size)) else none
    | none => none
  else match P.underlying t with
    | some _ => l[off]?
    | none => none
theorem run_isAgg_true {t : TypeId} (h : isAggT P t = true) : (isAgg t).run P w = .ok true w := by
  unfold isAggT at h
  unfold isAgg
  split at h
  · rename_i hu; simp [run_underlying hu]
  · rename_i hu; simp [run_underlying hu]
  · cases h
theorem run_isAgg_false {t : TypeId} {d : TypeDesc} (hd : P.underlying t = some d) (h : isAggT P t = false) : (isAgg t).run P w = .ok false w := by
  unfold isAggT at h
  unfold isAgg
  rw [hd] at h
  cases d <;> simp_all [run_underlying hd]
theorem Rc.drop {l : List V} {c : Array Value} {o : Nat} (h : Rc N ρ I w l c o) (k : Nat) : Rc N ρ I w (l.drop k) c (o + k) :=
  Rc.mk fun i v hv => by
    rw [List.getElem?_drop] at hv
    obtain ⟨x, h1, h2⟩ := h.get _ v hv
    exact ⟨x, by rw [← h1]; congr 1; omega, h2⟩
theorem Rc.take {l : List V} {c : Array Value} {o : Nat} (h : Rc N ρ I w l c o) (k : Nat) : Rc N ρ I w (l.take k) c o :=
  Rc.mk fun i v hv => h.get i v (by
    rw [List.getElem?_take] at hv
    split at hv
    · exact hv
    · cases hv)
theorem Rc.bound : ∀ {l : List V} {c : Array Value} {o : Nat}, Rc N ρ I w l c o → l = [] ∨ o + l.length ≤ c.size
  | [], _, _, _ => .inl rfl
  | v :: r, c, o, h => by
    right
    obtain ⟨x, h1, _⟩ := h.get r.length ((v :: r)[r.length]'(by simp)) (by simp)
    have := (Array.getElem?_eq_some_iff.1 h1).1
    simp; omega
theorem Rc.extract {l : List V} {c : Array Value} {off sz : Nat} (h : Rc N ρ I w l c 0) (hl : l.length = c.size) (hb : off + sz ≤ l.length) :
    RV N ρ I w (.agg ((l.drop off).take sz)) (.agg (c.extract off (off + sz))) := by
  simp only [RV]
  refine ⟨_, rfl, by simp; omega, Rc.mk fun i v hv => ?_⟩
  have hi : i < sz := by
    have := (List.getElem?_eq_some_iff.1 hv).1
    simp at this; omega
  rw [List.getElem?_take, if_pos hi, List.getElem?_drop] at hv
  obtain ⟨x, h1, h2⟩ := h.get _ v hv
  refine ⟨x, ?_, h2⟩
  rw [Array.getElem?_extract, if_pos (by omega), ← h1]
  congr 1
  omega
theorem partV_sound {t : TypeId} {l : List V} {c : Array Value} {off : Nat} {v : V} (hr : Rc N ρ I w l c 0) (hl : l.length = c.size) (h : partV P t l off = some v) :
    ∃ x, (part t c off).run P w = .ok x w ∧ RV N ρ I w v x := by
  unfold partV at h
  cases ha : isAggT P t with
  | true =>
    rw [ha] at h
    simp only [cond_true] at h
    split at h
    · rename_i i hi
      split at h
      · rename_i hb
        cases h
        exact ⟨_, by simp [part, run_isAgg_true ha, sizeOf, typeInfo, hi], hr.extract hl hb⟩
      · cases h
    · cases h
  | false =>
    rw [ha] at h
    simp only [cond_false] at h
    split at h
    · rename_i d hd
      obtain ⟨x, h1, _, h2⟩ := hr.get off v h
      exact ⟨x, by simp only [Nat.zero_add] at h1; simp [part, run_isAgg_false hd ha, h1], h2⟩
    · cases h
def fieldAtT (P : Program) (t : TypeId) (f : Nat) : Option Field :=
  match P.underlying t with
  | some (.struct fs) => fs[f]?
  | _ => none
def fieldV (P : Program) (t : TypeId) (f : Nat) : V → Option V
  | .agg l => match fieldAtT P t f with
    | some fd => partV P fd.type l fd.offset
    | none => none
  | _ => none
theorem fieldV_sound {t : TypeId} {f : Nat} {x v : V} {a : Value} (ha : RV N ρ I w x a) (h : fieldV P t f x = some v) : ∃ c, (Instr.field t a f).run P w = .ok c w ∧ RV N ρ I w v c := by
  unfold fieldV at h
  split at h
  · simp only [RV] at ha
    obtain ⟨c, rfl, h1, h2⟩ := ha
    split at h
    · rename_i fd hfd
      unfold fieldAtT at hfd
      split at hfd
      · rename_i fs hu
        obtain ⟨y, h3, h4⟩ := partV_sound h2 h1 h
        exact ⟨y, by simp [Instr.field, run_underlying hu, hfd, asAgg, h3], h4⟩
      · cases hfd
    · cases h
  · cases h
def indexV (P : Program) (t : TypeId) : V → V → Option V
  | .agg l, .int _ i => match P.underlying t with
    | some (.array n e) => if 0 ≤ i ∧ i < n then match P.info? e with
        | some inf => partV P e l (i.toNat * inf.size)
        | none => none
      else none
    | _ => none
  | .str s, .int _ i => match P.underlying t with
    | some .string => if 0 ≤ i then match s[i.toNat]? with
        | some b => some (.int .u8 b.toNat)
        | none => none
      else none
    | _ => none
  | _, _ => none
theorem indexV_sound {t : TypeId} {x y v : V} {a b : Value} (ha : RV N ρ I w x a) (hb : RV N ρ I w y b) (h : indexV P t x y = some v) :
    ∃ c, (Instr.index t a b).run P w = .ok c w ∧ RV N ρ I w v c := by
  unfold indexV at h
  split at h
  · simp only [RV] at ha hb
    obtain ⟨c, rfl, h1, h2⟩ := ha
    subst hb
    split at h
    · rename_i n e hu
      split at h
      · rename_i hi
        split at h
        · rename_i inf hinf
          obtain ⟨z, h3, h4⟩ := partV_sound h2 h1 h
          exact ⟨z, by simp [Instr.index, asIntOf, run_underlying hu, hi, sizeOf, typeInfo, hinf, h3], h4⟩
        · cases h
      · cases h
    · cases h
  · simp only [RV] at ha hb
    subst ha; subst hb
    split at h
    · rename_i hu
      split at h
      · rename_i hi
        split at h
        · rename_i b hb
          cases h
          exact ⟨_, by simp [Instr.index, asIntOf, run_underlying hu, hi, hb], rfl⟩
        · cases h
      · cases h
    · cases h
  · cases h
end
end Go.Proofs.Ytjjenpdjmcmgbaa.Ab
namespace Go.Proofs.Ytjjenpdjmcmgbaa.Ab
open Go
set_option linter.unusedSimpArgs false
set_option linter.unusedVariables false
section
variable {P : Program} {N : Nat} {ρ : Pl} {I : Nat → Prop} {w : World} {m : Mem}
/-- What an operation has come to: a value and memory. -/
def Came (P : Program) (ρ : Pl) (I : Nat → Prop) (m : Mem) (w : World) (s : Sem Value) (v : V) (m' : Mem) : Prop :=
  ∃ x w' ρ' I', s.run P w = .ok x w' ∧ Rep ρ' I' m' w' ∧ Step ρ I m w ρ' I' m' w' ∧ RV m'.length ρ' I' w' v x
def CameU (P : Program) (ρ : Pl) (I : Nat → Prop) (m : Mem) (w : World) (s : Sem Unit) (m' : Mem) : Prop :=
  ∃ w' ρ' I', s.run P w = .ok () w' ∧ Rep ρ' I' m' w' ∧ Step ρ I m w ρ' I' m' w'
theorem Came.pure {s : Sem Value} {v : V} (hr : Rep ρ I m w) (h : ∃ x, s.run P w = .ok x w ∧ RV m.length ρ I w v x) : Came P ρ I m w s v m := by
  obtain ⟨x, h1, h2⟩ := h
  exact ⟨x, w, ρ, I, h1, hr, Step.refl _ _ _ _, h2⟩
def cellsAt (m : Mem) : V → Option (List V × Nat)
  | .ptr n off => match m[n]? with
    | some (.var _ l) => some (l, off)
    | _ => none
  | .ep sz n i off => match m[n]? with
    | some (.row _ sz' es) => if sz = sz' then (match es[i]? with
      | some e => some (e, off)
      | none => none) else none
    | _ => none
  | .ip l => some (l, 0)
  | _ => none
theorem cellsAt_sound (hr : Rep ρ I m w) {p : V} {x : Value} {l : List V} {off : Nat} (hp : RV m.length ρ I w p x) (h : cellsAt m p = some (l, off)) :
    ∃ b o c ty fr, x = .pointer (some ⟨b, o + off, none⟩) ∧ w.heap[b]? = some (.cells c ty fr) ∧ Rc m.length ρ I w l c o := by
  unfold cellsAt at h
  split at h
  · split at h
    · rename_i ty l' hm
      cases h
      obtain ⟨h0, c, h1, h2, h3⟩ := hr.blk _ _ hm
      simp only [RV] at hp
      exact ⟨_, _, c, ty, (0, 0), hp.2, h1, by rw [h0]; exact h3⟩
    · cases h
  · split at h
    · rename_i sz n i off' _ ty sz' es hm
      split at h
      · rename_i hs
        subst hs
        split at h
        · rename_i e he
          cases h
          obtain ⟨c, h1, h2, h3⟩ := hr.blk _ _ hm
          simp only [RV] at hp
          exact ⟨_, (ρ n).2 + i * sz, c, ty, (0, 0), by rw [hp.2, Nat.add_assoc], h1, (h3.get i _ he).2⟩
        · cases h
      · cases h
    · cases h
  · rename_i l'
    cases h
    simp only [RV] at hp
    obtain ⟨b, o, c, ty, fr, h1, h2, h3, h4⟩ := hp
    exact ⟨b, o, c, ty, fr, by simpa using h1, h3, h4.1⟩
  · cases h
theorem cell_at {b : Nat} {c : Array Value} {ty : TypeId} {fr : Nat × Nat} (h : w.heap[b]? = some (.cells c ty fr)) (i : Nat) : w.cell? ⟨b, i, none⟩ = c[i]? :=
  cell_of_row w b i c ty fr h
theorem loadVar_sound {b o off : Nat} {c : Array Value} {ty t : TypeId} {fr : Nat × Nat} {l : List V} {v : V} (hb : w.heap[b]? = some (.cells c ty fr)) (hl : Rc N ρ I w l c o)
    (h : partV P t l off = some v) : ∃ x, (loadVar t ⟨b, o + off, none⟩).run P w = .ok x w ∧ RV N ρ I w v x := by
  unfold partV at h
  cases ha : isAggT P t with
  | true =>
    rw [ha] at h
    simp only [cond_true] at h
    split at h
    · rename_i i hi
      split at h
      · rename_i hbd
        cases h
        have hlen : ((c.toList.drop (o + off)).take i.size).length = i.size := by
          rcases hl.bound with h0 | h0
          · subst h0; simp at hbd; simp [hbd.2]
          · simp; omega
        have hcells := run_loadCells_list (P := P) w ⟨b, o + off, none⟩ ((c.toList.drop (o + off)).take i.size) (fun j u hu => by
          rw [Addr.add_lit, cell_at hb]
          rw [List.getElem?_take] at hu
          split at hu
          · rw [List.getElem?_drop] at hu; simpa using hu
          · cases hu)
        rw [hlen] at hcells
        refine ⟨.agg ((c.toList.drop (o + off)).take i.size).toArray, by simp [loadVar, run_isAgg_true ha, sizeOf, typeInfo, hi, hcells], ?_⟩
        simp only [RV]
        refine ⟨_, rfl, by rw [List.size_toArray, hlen]; simp; omega, Rc.mk fun j u hu => ?_⟩
        have hj : j < i.size := by
          have := (List.getElem?_eq_some_iff.1 hu).1
          simp at this; omega
        rw [List.getElem?_take, if_pos hj, List.getElem?_drop] at hu
        obtain ⟨y, h1, h2⟩ := hl.get _ u hu
        refine ⟨y, ?_, h2⟩
        rw [Nat.zero_add, List.getElem?_toArray, List.getElem?_take, if_pos hj, List.getElem?_drop, ← h1]
        simp [Nat.add_assoc]
      · cases h
    · cases h
  | false =>
    rw [ha] at h
    simp only [cond_false] at h
    split at h
    · rename_i d hd
      obtain ⟨x, h1, _, h2⟩ := hl.get off v h
      exact ⟨x, by simp [loadVar, run_isAgg_false hd ha]; rw [cell_at hb, h1], h2⟩
    · cases h
def loadV (P : Program) (m : Mem) (t : TypeId) (p : V) : Option V :=
  match cellsAt m p with
  | some (l, off) => partV P t l off
  | none => none
theorem loadV_sound (hr : Rep ρ I m w) {t : TypeId} {p v : V} {x : Value} (hp : RV m.length ρ I w p x) (h : loadV P m t p = some v) :
    ∃ y, (Instr.loadAt t x).run P w = .ok y w ∧ RV m.length ρ I w v y := by
  unfold loadV at h
  split at h
  · rename_i l off hc
    obtain ⟨b, o, c, ty, fr, h1, h2, h3⟩ := cellsAt_sound hr hp hc
    obtain ⟨y, h4, h5⟩ := loadVar_sound h2 h3 h
    exact ⟨y, by simp [Instr.loadAt, Instr.sureAddr, h1, h4], h5⟩
  · cases h
def oneV : V → Bool
  | .agg _ => false
  | .tup _ => false
  | .unk => false
  | _ => true
theorem oneV_sound {v : V} {x : Value} (h : oneV v = true) (hx : RV N ρ I w v x) : x.oneCell' = true ∧ x.cells = #[x] := by
  cases v <;> simp [oneV] at h <;> simp only [RV] at hx
  case ptr => obtain ⟨_, rfl⟩ := hx; exact ⟨rfl, rfl⟩
  case ep => obtain ⟨_, rfl⟩ := hx; exact ⟨rfl, rfl⟩
  case ip => obtain ⟨_, _, _, _, _, rfl, _⟩ := hx; exact ⟨rfl, rfl⟩
  case sl => obtain ⟨_, _, _, rfl, _⟩ := hx; exact ⟨rfl, rfl⟩
  case isl => obtain ⟨_, _, rfl, _⟩ := hx; exact ⟨rfl, rfl⟩
  case mp => obtain ⟨_, rfl⟩ := hx; exact ⟨rfl, rfl⟩
  case fn => obtain ⟨_, _, rfl, _⟩ := hx; exact ⟨rfl, rfl⟩
  case ifc => obtain ⟨_, rfl, _⟩ := hx; exact ⟨rfl, rfl⟩
  all_goals (subst hx; exact ⟨rfl, rfl⟩)
def cellsOfV : V → List V
  | .agg l => l
  | v => [v]
/-- Does a value stand for cells? -/
def cellsB : V → Bool
  | .agg _ => true
  | v => oneV v
theorem cellsOfV_sound {v : V} {x : Value} (h : cellsB v = true) (hx : RV N ρ I w v x) :
    Rc N ρ I w (cellsOfV v) x.cells 0 ∧ (cellsOfV v).length = x.cells.size ∧ ∀ y ∈ x.cells.toList, y.oneCell' = true := by
  have one : ∀ {v : V}, oneV v = true → RV N ρ I w v x → Rc N ρ I w [v] x.cells 0 ∧ [v].length = x.cells.size ∧ ∀ y ∈ x.cells.toList, y.oneCell' = true := by
    intro v h1 h2
    obtain ⟨h3, h4⟩ := oneV_sound h1 h2
    rw [h4]
    exact ⟨by simp [Rc]; exact ⟨h3, h2⟩, rfl, by simpa using h3⟩
  cases v with
  | agg l =>
    simp only [cellsOfV]
    simp only [RV] at hx
    obtain ⟨c, rfl, h1, h2⟩ := hx
    refine ⟨h2, h1, fun y hy => ?_⟩
    obtain ⟨i, hi⟩ := List.getElem?_of_mem hy
    have hil : i < l.length := by
      have := (List.getElem?_eq_some_iff.1 hi).1
      simp only [Value.cells, Array.length_toList] at this
      omega
    obtain ⟨z, h3, h4, _⟩ := h2.get i l[i] (List.getElem?_eq_getElem hil)
    simp only [Value.cells, Array.getElem?_toList] at hi
    rw [Nat.zero_add, hi] at h3
    cases h3
    exact h4
  | _ => exact one h hx
def splice {α : Type} (l : List α) (off : Nat) (cs : List α) : List α := l.take off ++ cs ++ l.drop (off + cs.length)
theorem splice_length {α : Type} {l : List α} {off : Nat} {cs : List α} (h : off + cs.length ≤ l.length) : (splice l off cs).length = l.length := by
  simp [splice]; omega
theorem splice_get {α : Type} {l : List α} {off : Nat} {cs : List α} (h : off + cs.length ≤ l.length) (i : Nat) :
    (splice l off cs)[i]? = if i < off then l[i]? else if i < off + cs.length then cs[i - off]? else l[i]? := by
  unfold splice
  have hl : (l.take off).length = off := by simp; omega
  by_cases h1 : i < off
  · rw [if_pos h1, List.getElem?_append_left (by simp; omega), List.getElem?_append_left (by omega), List.getElem?_take, if_pos h1]
  · rw [if_neg h1]
    by_cases h2 : i < off + cs.length
    · rw [if_pos h2, List.getElem?_append_left (by simp; omega), List.getElem?_append_right (by omega), hl]
    · rw [if_neg h2, List.getElem?_append_right (by simp; omega), List.getElem?_drop]
      congr 1
      simp; omega
theorem Rc.splice {l cs : List V} {c x : Array Value} {o off : Nat} (hl : Rc N ρ I w l c o) (hc : Rc N ρ I w cs x 0) (hx : cs.length = x.size) (hb : off + cs.length ≤ l.length) (hsz : o + l.length ≤ c.size) :
    Rc N ρ I w (splice l off cs) (Ab.splice c.toList (o + off) x.toList).toArray o := Rc.mk fun i v hv => by
  rw [splice_get hb] at hv
  rw [List.getElem?_toArray, splice_get (by simp; omega)]
  split at hv
  · rw [if_pos (by omega)]
    obtain ⟨y, h1, h2⟩ := hl.get i v hv
    exact ⟨y, by simpa using h1, h2⟩
  · split at hv
    · rw [if_neg (by omega), if_pos (by simp; omega)]
      obtain ⟨y, h1, h2⟩ := hc.get _ v hv
      exact ⟨y, by rw [← h1]; simp; congr 1; omega, h2⟩
    · rw [if_neg (by omega), if_neg (by simp; omega)]
      obtain ⟨y, h1, h2⟩ := hl.get i v hv
      exact ⟨y, by simpa using h1, h2⟩
/-- Cells that are not written stay. -/
theorem Rc.splice_out {l : List V} {c : Array Value} {x : List Value} {o a : Nat} (hl : Rc N ρ I w l c o) (ha : a + x.length ≤ c.size) (ho : o + l.length ≤ a ∨ a + x.length ≤ o) :
    Rc N ρ I w l (Ab.splice c.toList a x).toArray o := Rc.mk fun i v hv => by
  have hi := (List.getElem?_eq_some_iff.1 hv).1
  obtain ⟨y, h1, h2⟩ := hl.get i v hv
  refine ⟨y, ?_, h2⟩
  rw [List.getElem?_toArray, splice_get (by simpa using ha)]
  split
  · simpa using h1
  · split
    · omega
    · simpa using h1
theorem run_storeCells_splice {g o : Nat} {c : Array Value} {ty : TypeId} (hg : w.heap[g]? = some (.cells c ty (0, 0))) (vs : List Value) (hb : o + vs.length ≤ c.size) (h1 : ∀ v ∈ vs, v.oneCell' = true) :
    (storeCells ⟨g, o, none⟩ vs).run P w = .ok () (w.setRow g (splice c.toList o vs).toArray) := by
  have := run_storeCells_at P g o ty vs 0 c w hg (by simpa using hb) h1
  simpa [splice] using this
/-- Cells to be written that stand there already. -/
def plainEq : V → V → Bool
  | .bool a, .bool b => a == b
  | .int k a, .int k' b => decide (k = k') && decide (a = b)
  | _, _ => false
def stillB : List V → List V → Bool
  | _, [] => true
  | a :: l, b :: r => plainEq a b && stillB l r
  | [], _ :: _ => false
theorem plainEq_sound {a b : V} {x y : Value} (h : plainEq a b = true) (hx : RV N ρ I w a x) (hy : RV N ρ I w b y) : y = x := by
  cases a <;> cases b <;> first | (simp [plainEq] at h; done) | skip
  · simp only [plainEq, beq_iff_eq] at h; subst h; simp only [RV] at hx hy; rw [hx, hy]
  · simp only [plainEq, Bool.and_eq_true, decide_eq_true_eq] at h; obtain ⟨rfl, rfl⟩ := h; simp only [RV] at hx hy; rw [hx, hy]
theorem stillB_len : ∀ {l r : List V}, stillB l r = true → r.length ≤ l.length
  | _, [], _ => by simp
  | a :: l, b :: r, h => by simp only [stillB, Bool.and_eq_true] at h; have := stillB_len h.2; simp; omega
  | [], _ :: _, h => by cases h
theorem stillB_at : ∀ {l r : List V}, stillB l r = true → ∀ (i : Nat) b, r[i]? = some b → ∃ a, l[i]? = some a ∧ plainEq a b = true
  | _, [], _, i, b, hb => by simp at hb
  | a :: l, b0 :: r, h, 0, b, hb => by
    simp only [stillB, Bool.and_eq_true] at h
    simp at hb; subst hb
    exact ⟨a, rfl, h.1⟩
  | a :: l, b0 :: r, h, i + 1, b, hb => by
    simp only [stillB, Bool.and_eq_true] at h
    obtain ⟨u, h1, h2⟩ := stillB_at h.2 i b (by simpa using hb)
    exact ⟨u, by simpa using h1, h2⟩
  | [], _ :: _, h, _, _, _ => by cases h
/-- What is written stands there already: nothing turns. -/
theorem run_storeCells_still (P : Program) (g o : Nat) (t : TypeId) (fz : Nat × Nat) (cur : Array Value) : ∀ (vs : List Value) (i : Nat) (w : World), w.heap[g]? = some (.cells cur t fz) → Uf fz (o + i) vs.length → (∀ (k : Nat) v, vs[k]? = some v → cur[o + i + k]? = some v) → (∀ v ∈ vs, v.oneCell' = true) →
    (storeCells ⟨g, o, none⟩ vs i).run P w = .ok () w
  | [], i, w, hg, _, _, _ => by simp only [storeCells]; rfl
  | v :: rest, i, w, hg, hfz, hc, h1 => by
    have hv : cur[o + i]? = some v := by simpa using hc 0 v rfl
    have hadd : (⟨g, o, none⟩ : Addr).add i = ⟨g, o + i, none⟩ := by unfold Addr.add; split <;> simp_all
    have hcell : w.cell? ⟨g, o + i, none⟩ = some v := by simp [World.cell?, hg, hv]
    have hfro : w.frozen? ⟨g, o + i, none⟩ = false := by
      have := hfz (o + i) (Nat.le_refl _) (by simp)
      obtain ⟨lo, hi⟩ := fz
      simp only [World.frozen?, hg, Bool.and_eq_false_iff, decide_eq_false_iff_not]
      simp only at this
      omega
    have hsame : cur.setIfInBounds (o + i) v = cur := by
      apply Array.ext_getElem?
      intro k
      rw [Array.getElem?_setIfInBounds]
      split
      · rename_i hk
        subst hk
        split
        · exact hv.symm
        · rename_i hlt
          rw [Array.getElem?_eq_none (by omega)]
      · rfl
    have hst : (store ((⟨g, o, none⟩ : Addr).add i) v).run P w = .ok () w := by
      rw [hadd, run_store P w _ v _ (h1 v (by simp)), hcell]
      simp [hfro, setCell_eq_setRow w g (o + i) cur t fz v hg, hsame, setRow_self w g cur t fz hg]
    have ih := run_storeCells_still P g o t fz cur rest (i + 1) w hg (by
      intro j h2 h3
      exact hfz j (by omega) (by simp at h3 ⊢; omega)) (fun k u hk => by
      have := hc (k + 1) u (by simpa using hk)
      rwa [show o + (i + 1) + k = o + i + (k + 1) by omega]) (fun x hx => h1 x (by simp [hx]))
    simp only [storeCells, Sem.run_bind, hst, Result.andThen_ok, ih]
def storeV (P : Program) (t : TypeId) (m : Mem) (p v : V) : Option Mem :=
  match P.info? t with
  | none => none
  | some inf => bif Nat.beq (cellsOfV v).length inf.size && cellsB v then
      match p with
      | .ptr n off => match m[n]? with
        | some (.var ty l) => if off + (cellsOfV v).length ≤ l.length then some (m.set n (.var ty (splice l off (cellsOfV v)))) else none
        | _ => none
      | .ep sz n i off => match m[n]? with
        | some (.row ty sz' es) => if sz = sz' then (match es[i]? with
          | some e => if off + (cellsOfV v).length ≤ e.length then some (m.set n (.row ty sz' (es.set i (splice e off (cellsOfV v))))) else none
          | none => none) else none
        | _ => none
      | .ip l => if stillB l (cellsOfV v) = true then some m else none
      | _ => none
    else none
theorem setRow_facts {g : Nat} {c c' : Array Value} {ty : TypeId} (hg : w.heap[g]? = some (.cells c ty (0, 0))) (hs : c'.size = c.size) :
    (w.setRow g c').heap.size = w.heap.size ∧ (∀ k, k ≠ g → (w.setRow g c').heap[k]? = w.heap[k]?) ∧ (w.setRow g c').heap[g]? = some (.cells c' ty (0, 0)) ∧
    ∀ (d : Array Value) (ty' : TypeId), w.heap[g]? = some (.cells d ty' (0, 0)) → ∃ d', (w.setRow g c').heap[g]? = some (.cells d' ty' (0, 0)) ∧ d'.size = d.size := by
  refine ⟨by simp, fun k h => setRow_other w g k c' h, setRow_heap w g c c' ty _ hg, fun d ty' hd => ?_⟩
  rw [hg] at hd
  cases hd
  exact ⟨c', setRow_heap w g c c' ty _ hg, hs⟩
theorem live_of {n : Nat} {b : B} (h : m[n]? = some b) (hb : b.live = true) : live m n := ⟨b, h, hb⟩
theorem storeV_sound (hr : Rep ρ I m w) {t : TypeId} {p v : V} {x y : Value} {m' : Mem} (hp : RV m.length ρ I w p x) (hv : RV m.length ρ I w v y) (h : storeV P t m p v = some m') :
    CameU P ρ I m w (Instr.storeAt t x y) m' := by
  unfold storeV at h
  split at h
  · cases h
  · rename_i inf hi
    cases hc : Nat.beq (cellsOfV v).length inf.size && cellsB v with
    | false => rw [hc] at h; cases h
    | true =>
      rw [hc] at h
      simp only [cond_true] at h
      simp only [Bool.and_eq_true, Nat.beq_eq] at hc
      obtain ⟨h1, h2, h3⟩ := cellsOfV_sound hc.2 hv
      have hst : ∀ g o (c : Array Value) (ty : TypeId), w.heap[g]? = some (.cells c ty (0, 0)) → o + (cellsOfV v).length ≤ c.size →
          (storeVar t ⟨g, o, none⟩ y).run P w = .ok () (w.setRow g (splice c.toList o y.cells.toList).toArray) := by
        intro g o c ty hg hb
        have := run_storeCells_splice (P := P) hg y.cells.toList (by rw [Array.length_toList, ← h2]; exact hb) h3
        simp [storeVar, sizeOf, typeInfo, hi, ← h2, hc.1, this]
      split at h
      · rename_i n off
        split at h
        · rename_i ty l hm
          split at h
          · rename_i hb
            cases h
            obtain ⟨g0, c, g1, g2, g3⟩ := hr.blk _ _ hm
            simp only [RV] at hp
            rw [g0, Nat.zero_add] at hp
            have hs : (splice c.toList off y.cells.toList).toArray.size = c.size := by simp [splice]; omega
            obtain ⟨f1, f2, f3, f4⟩ := setRow_facts g1 hs
            obtain ⟨k1, k2⟩ := hr.write (w' := w.setRow (ρ n).1 (splice c.toList off y.cells.toList).toArray) (live_of hm rfl) (.var ty (splice l off (cellsOfV v))) rfl rfl rfl f1 f2 f4 (fun hk => by
              refine ⟨g0, _, f3, by rw [hs, splice_length hb, g2], ?_⟩
              have e := Rc.splice (off := off) (Rc.keep hk _ _ _ g3) (Rc.keep hk _ _ _ h1) h2 hb (by omega)
              rwa [Nat.zero_add] at e)
            exact ⟨_, ρ, I, by simp [Instr.storeAt, Instr.sureAddr, hp.2, hst (ρ n).1 off c ty g1 (by omega)], k1, k2⟩
          · cases h
        · cases h
      · rename_i sz n i off
        split at h
        · rename_i ty sz' es hm
          split at h
          · rename_i hsz
            subst hsz
            split at h
            · rename_i e he
              split at h
              · rename_i hb
                cases h
                obtain ⟨c, g1, g2, g3⟩ := hr.blk _ _ hm
                simp only [RV] at hp
                obtain ⟨e1, e2⟩ := g3.get i e he
                have hil : i < es.length := (List.getElem?_eq_some_iff.1 he).1
                have hmul : i * sz + sz ≤ es.length * sz := by
                  have := Nat.mul_le_mul_right sz (show i + 1 ≤ es.length from hil)
                  rw [Nat.add_mul] at this; omega
                have hfit : (ρ n).2 + (i * sz + off) + (cellsOfV v).length ≤ c.size := by omega
                have hs : (splice c.toList ((ρ n).2 + (i * sz + off)) y.cells.toList).toArray.size = c.size := by simp [splice]; omega
                obtain ⟨f1, f2, f3, f4⟩ := setRow_facts g1 hs
                obtain ⟨k1, k2⟩ := hr.write (w' := w.setRow (ρ n).1 (splice c.toList ((ρ n).2 + (i * sz + off)) y.cells.toList).toArray) (live_of hm rfl) (.row ty sz (es.set i (splice e off (cellsOfV v)))) rfl rfl rfl f1 f2 f4 (fun hk => by
                  refine ⟨_, f3, by rw [hs, List.length_set]; exact g2, Rcc.mk fun j u hu => ?_⟩
                  by_cases hj : j = i
                  · subst hj
                    rw [List.getElem?_set_self hil] at hu
                    cases hu
                    refine ⟨by rw [splice_length hb, e1], ?_⟩
                    have e := Rc.splice (off := off) (Rc.keep hk _ _ _ e2) (Rc.keep hk _ _ _ h1) h2 hb (by omega)
                    rwa [Nat.add_assoc] at e
                  · rw [List.getElem?_set_ne (fun h => hj h.symm)] at hu
                    obtain ⟨u1, u2⟩ := g3.get j u hu
                    have hyl : y.cells.toList.length = (cellsOfV v).length := by rw [Array.length_toList, h2]
                    refine ⟨u1, Rc.splice_out (Rc.keep hk _ _ _ u2) (by rw [hyl]; exact hfit) ?_⟩
                    rw [hyl]
                    rcases Nat.lt_or_gt_of_ne hj with hlt | hgt
                    · left
                      have := Nat.mul_le_mul_right sz (show j + 1 ≤ i from hlt)
                      rw [Nat.add_mul] at this; omega
                    · right
                      have := Nat.mul_le_mul_right sz (show i + 1 ≤ j from hgt)
                      rw [Nat.add_mul] at this; omega)
                exact ⟨_, ρ, I, by simp [Instr.storeAt, Instr.sureAddr, hp.2, hst _ _ c ty g1 hfit], k1, k2⟩
              · cases h
            · cases h
          · cases h
        · cases h
      · rename_i l
        split at h
        · rename_i hb
          cases h
          simp only [RV] at hp
          obtain ⟨b, o, c, ty, fr, rfl, g1, g2, g3, g4⟩ := hp
          have hl := stillB_len hb
          have := run_storeCells_still P b o ty fr c y.cells.toList 0 w g2 (g4.part (by omega) (.inr (by rw [Array.length_toList, ← h2]; omega))) (fun k u hk => by
            have hk' : k < (cellsOfV v).length := by
              have := (List.getElem?_eq_some_iff.1 hk).1
              rw [Array.length_toList] at this; omega
            obtain ⟨a, q1, q2⟩ := stillB_at hb k _ (List.getElem?_eq_getElem hk')
            obtain ⟨z, r1, _, r3⟩ := g3.get k a q1
            obtain ⟨z', s1, _, s3⟩ := h1.get k _ (List.getElem?_eq_getElem hk')
            rw [Nat.zero_add] at s1
            rw [Array.getElem?_toList, s1] at hk
            cases hk
            rw [Nat.add_zero, r1, plainEq_sound q2 r3 s3]) h3
          refine ⟨w, ρ, I, ?_, hr, Step.refl _ _ _ _⟩
          simp [Instr.storeAt, Instr.sureAddr, storeVar, sizeOf, typeInfo, hi, ← h2, hc.1, this]
        · cases h
      · cases h
/-- A new variable that holds a value. -/
def newV (ty : TypeId) (m : Mem) (v : V) : Option (V × Mem) :=
  bif cellsB v then some (.ptr m.length 0, m ++ [.var ty (cellsOfV v)]) else none
theorem newV_sound (hr : Rep ρ I m w) {ty : TypeId} {v v' : V} {y : Value} {m' : Mem} (hv : RV m.length ρ I w v y) (h : newV ty m v = some (v', m')) :
    Came P ρ I m w (do pure (.pointer (some (← newVar ty y)))) v' m' := by
  unfold newV at h
  cases hc : cellsB v with
  | false => rw [hc] at h; cases h
  | true =>
    rw [hc] at h
    simp only [cond_true, Option.some.injEq, Prod.mk.injEq] at h
    obtain ⟨rfl, rfl⟩ := h
    obtain ⟨h1, h2, h3⟩ := cellsOfV_sound hc hv
    obtain ⟨k1, k2⟩ := hr.alloc (.cells y.cells ty) (.var ty (cellsOfV v)) (fun hk => ⟨rfl, y.cells, heap_alloc_new w _, h2.symm, Rc.keep hk _ _ _ h1⟩)
    refine ⟨_, _, _, _, rfl, k1, k2, ?_⟩
    simp only [RV]
    exact ⟨by simp, by rw [Pl.put_self]⟩
def allocV (P : Program) (t : TypeId) (m : Mem) : Option (V × Mem) :=
  match P.info? t with
  | some i => match i.zero with
    | some z => newV t m (constV z)
    | none => none
  | none => none
theorem allocV_sound (hr : Rep ρ I m w) {t : TypeId} {v' : V} {m' : Mem} (h : allocV P t m = some (v', m')) : Came P ρ I m w (Instr.alloc t true (.tuple #[])) v' m' := by
  unfold allocV at h
  split at h
  · rename_i i hi
    split at h
    · rename_i z hz
      obtain ⟨x, w', ρ', I', h1, h2, h3, h4⟩ := newV_sound (P := P) hr (RV_constV _ _ _ _ z) h
      refine ⟨x, w', ρ', I', ?_, h2, h3, h4⟩
      rw [← h1]
      simp [Instr.alloc, zeroValue, typeInfo, hi, hz]
    · cases h
  · cases h
def faddrV (P : Program) (t : TypeId) (f : Nat) (p : V) : Option V :=
  match fieldAtT P t f with
  | some fd => match P.info? fd.type with
    | some i => bif Nat.beq i.size 0 then none else match p with
      | .ptr n off => some (.ptr n (off + fd.offset))
      | .ep sz n i off => some (.ep sz n i (off + fd.offset))
      | .ip l => if fd.offset ≤ l.length then some (.ip (l.drop fd.offset)) else none
      | _ => none
    | none => none
  | none => none
theorem faddrV_sound {t : TypeId} {f : Nat} {p v : V} {x : Value} (hp : RV N ρ I w p x) (h : faddrV P t f p = some v) : ∃ y, (Instr.fieldAt t x f).run P w = .ok y w ∧ RV N ρ I w v y := by
  unfold faddrV at h
  split at h
  · rename_i fd hfd
    unfold fieldAtT at hfd
    split at hfd
    · rename_i fs hu
      split at h
      · rename_i i hi
        cases hz : Nat.beq i.size 0 with
        | true => rw [hz] at h; cases h
        | false =>
          rw [hz] at h
          simp only [cond_false] at h
          have hz' : i.size ≠ 0 := by
            intro e; rw [e] at hz; cases hz
          have hplace : ∀ b o, (Instr.fieldAt t (.pointer (some ⟨b, o, none⟩)) f).run P w = .ok (.pointer (some ⟨b, o + fd.offset, none⟩)) w := by
            intro b o
            simp [Instr.fieldAt, run_underlying hu, hfd, Instr.sureAddr, fieldPlace, sizeOf, typeInfo, hi, hz', Addr.add_lit]
          split at h
          · cases h
            simp only [RV] at hp ⊢
            obtain ⟨h1, rfl⟩ := hp
            exact ⟨_, hplace _ _, h1, by rw [Nat.add_assoc]⟩
          · cases h
            simp only [RV] at hp ⊢
            obtain ⟨h1, rfl⟩ := hp
            exact ⟨_, hplace _ _, h1, by simp [Nat.add_assoc]⟩
          · split at h
            · cases h
              simp only [RV] at hp ⊢
              obtain ⟨b, o, c, ty, fr, rfl, h2, h3, h4⟩ := hp
              exact ⟨_, hplace _ _, b, o + fd.offset, c, ty, fr, rfl, h2, h3, h4.1.drop _, h4.2.part (by omega) (by rw [List.length_drop]; omega)⟩
            · cases h
          · cases h
      · cases h
    · cases hfd
  · cases h
def iaddrV (P : Program) (t : TypeId) : V → V → Option V
  | p, .int _ i => match P.underlying t with
    | some (.array n e) => if 0 ≤ i ∧ i < n then match P.info? e with
        | some inf => match p with
          | .ptr k off => some (.ptr k (off + i.toNat * inf.size))
          | .ep sz k j off => some (.ep sz k j (off + i.toNat * inf.size))
          | .ip l => some (.ip (l.drop (i.toNat * inf.size)))
          | _ => none
        | none => none
      else none
    | some (.slice e) => match P.info? e with
        | some inf => match p with
          | .sl sz k off len => if 0 ≤ i ∧ i < len then (bif Nat.beq sz inf.size then some (.ep sz k (off + i.toNat) 0) else none) else none
          | .isl sz es => if 0 ≤ i ∧ i < es.length then (bif Nat.beq sz inf.size then (match es[i.toNat]? with
              | some e => some (.ip e)
              | none => none) else none) else none
          | _ => none
        | none => none
    | _ => none
  | _, _ => none
theorem iaddrV_sound {t : TypeId} {p q v : V} {x y : Value} (hp : RV N ρ I w p x) (hq : RV N ρ I w q y) (h : iaddrV P t p q = some v) :
    ∃ z, (Instr.indexAt t x y).run P w = .ok z w ∧ RV N ρ I w v z := by
  unfold iaddrV at h
  split at h
  · simp only [RV] at hq
    subst hq
    split at h
    · rename_i n e hu
      split at h
      · rename_i hi
        split at h
        · rename_i inf hinf
          have hplace : ∀ b o k j, (Instr.indexAt t (.pointer (some ⟨b, o, none⟩)) (.int k j)).run P w = if 0 ≤ j ∧ j < n then .ok (.pointer (some ⟨b, o + j.toNat * inf.size, none⟩)) w else (Instr.indexAt t (.pointer (some ⟨b, o, none⟩)) (.int k j)).run P w := by
            intro b o k j
            split
            · rename_i hj
              simp [Instr.indexAt, asIntOf, run_underlying hu, Instr.sureAddr, hj, sizeOf, typeInfo, hinf, Addr.add_lit]
            · rfl
          split at h
          · cases h
            simp only [RV] at hp ⊢
            obtain ⟨h1, rfl⟩ := hp
            exact ⟨_, by rw [hplace, if_pos hi], h1, by rw [Nat.add_assoc]⟩
          · cases h
            simp only [RV] at hp ⊢
            obtain ⟨h1, rfl⟩ := hp
            exact ⟨_, by rw [hplace, if_pos hi], h1, by simp [Nat.add_assoc]⟩
          · cases h
            simp only [RV] at hp ⊢
            obtain ⟨b, o, c, ty, fr, rfl, h2, h3, h4⟩ := hp
            exact ⟨_, by rw [hplace, if_pos hi], b, _, c, ty, fr, rfl, h2, h3, h4.1.drop _, h4.2.part (by omega) (by rw [List.length_drop]; omega)⟩
          · cases h
        · cases h
      · cases h
    · rename_i e hu
      split at h
      · rename_i inf hinf
        have hplace : ∀ (b o len cap : Nat) k (j : Int), 0 ≤ j ∧ j < (len : Int) → (Instr.indexAt t (.slice (some ⟨b, o, none⟩) len cap) (.int k j)).run P w = .ok (.pointer (some ⟨b, o + j.toNat * inf.size, none⟩)) w := by
          intro b o len cap k j hj
          simp [Instr.indexAt, asIntOf, run_underlying hu, hj, sizeOf, typeInfo, hinf, Addr.add_lit]
        split at h
        · rename_i sz k off len
          split at h
          · rename_i hi
            cases hs : Nat.beq sz inf.size with
            | false => rw [hs] at h; cases h
            | true =>
              rw [hs] at h
              simp only [cond_true, Option.some.injEq] at h
              subst h
              have hs' := Nat.eq_of_beq_eq_true hs
              simp only [RV] at hp ⊢
              obtain ⟨h1, o, cap, rfl, h2, h3, c, ty, h4, h5⟩ := hp
              refine ⟨_, hplace _ _ _ _ _ _ hi, h1, ?_⟩
              rcases h3 with h3 | h3
              · omega
              · rw [h3, hs', Nat.add_mul]
                simp [Nat.add_assoc]
          · cases h
        · rename_i sz es
          split at h
          · rename_i hi
            cases hs : Nat.beq sz inf.size with
            | false => rw [hs] at h; cases h
            | true =>
              rw [hs] at h
              simp only [cond_true] at h
              have hs' := Nat.eq_of_beq_eq_true hs
              split at h
              · rename_i el he
                cases h
                simp only [RV] at hp ⊢
                obtain ⟨a, cap, rfl, h2, h3⟩ := hp
                rcases h3 with rfl | ⟨b, o, c, ty, fr, rfl, h4, h5, h6⟩
                · simp at hi; omega
                · exact ⟨_, hplace _ _ _ _ _ _ hi, b, _, c, ty, fr, rfl, h4, h5, by rw [← hs']; exact (h6.1.get _ el he).2, h6.2.part (by omega) (.inr (by
                    have e1 := (h6.1.get _ el he).1
                    have e2 := (List.getElem?_eq_some_iff.1 he).1
                    have e3 := Nat.mul_le_mul_right sz (Nat.succ_le_of_lt e2)
                    rw [Nat.succ_mul] at e3
                    rw [← hs', e1]; omega))⟩
              · cases h
          · cases h
        · cases h
      · cases h
    · cases h
  · cases h
end
end Go.Proofs.Ytjjenpdjmcmgbaa.Ab
