/- The abstract values and memory of an evaluator for the loaded program, and what it means that they stand for the machine's. No condition. -/
import Derived.WalkKit
import Derived.RowKit3
namespace Go.Proofs.Ytnhejkfbnjopjaa.Ab
open Go
set_option linter.unusedSimpArgs false
set_option linter.unusedVariables false

/-- Abstract values. Names of memory blocks are numbers; what cannot be written is carried by value. -/
inductive V where
  | unk
  | bool (b : Bool)
  | int (k : IntKind) (n : Int)
  | str (s : ByteArray)
  | nilp
  | ptr (n off : Nat)
  | ep (sz n i off : Nat)
  | ip (cells : List V)
  | nils
  | sl (sz n off len : Nat)
  | isl (sz : Nat) (es : List (List V))
  | nilm
  | mp (n : Nat)
  | nilf
  | fn (f : Nat) (first cap : List V)
  | nili
  | ifc (t : Nat) (v : V)
  | agg (l : List V)
  | tup (l : List V)

inductive B where
  | dead
  | var (ty : Nat) (l : List V)
  | row (ty sz : Nat) (es : List (List V))
  | map (es : List (V × V))

def B.live : B → Bool
  | .dead => false
  | _ => true

abbrev Mem := List B

def live (m : Mem) (n : Nat) : Prop := ∃ b, m[n]? = some b ∧ b.live = true

theorem live_lt {m : Mem} {n : Nat} (h : live m n) : n < m.length := by
  obtain ⟨b, hb, _⟩ := h
  exact (List.getElem?_eq_some_iff.1 hb).1

/-- A place: a block's number and where in it. -/
abbrev Pl := Nat → Nat × Nat

section rel
variable (N : Nat) (ρ : Pl) (I : Nat → Prop) (w : World)
mutual
def RV : V → Value → Prop
  | .unk, _ => True
  | .bool b, x => x = .bool b
  | .int k n, x => x = .int k n
  | .str s, x => x = .string s
  | .nilp, x => x = .pointer none
  | .ptr n off, x => n < N ∧ x = .pointer (some ⟨(ρ n).1, (ρ n).2 + off, none⟩)
  | .ep sz n i off, x => n < N ∧ x = .pointer (some ⟨(ρ n).1, (ρ n).2 + (i * sz + off), none⟩)
  | .ip l, x => ∃ b o c ty fr, x = .pointer (some ⟨b, o, none⟩) ∧ I b ∧ w.heap[b]? = some (.cells c ty fr) ∧ Rc l c o
  | .nils, x => x = .slice none 0 0
  | .sl sz n off len, x => n < N ∧ ∃ o cap, x = .slice (some ⟨(ρ n).1, o, none⟩) len cap ∧ len ≤ cap ∧ (cap = 0 ∨ o = (ρ n).2 + off * sz) ∧
      ∃ c ty, w.heap[(ρ n).1]? = some (.cells c ty (0, 0)) ∧ (cap = 0 ∨ o + cap * sz ≤ c.size)
  | .isl sz es, x => ∃ a cap, x = .slice a es.length cap ∧ es.length ≤ cap ∧ (es = [] ∨ ∃ b o c ty fr, a = some ⟨b, o, none⟩ ∧ I b ∧ w.heap[b]? = some (.cells c ty fr) ∧ Rcc es c o sz)
  | .nilm, x => x = .map none
  | .mp n, x => n < N ∧ x = .map (some (ρ n).1)
  | .nilf, x => x = .nilFunc
  | .fn f fi cp, x => ∃ a b, x = .func (.func f) a b ∧ fi.length = a.size ∧ Rt fi a 0 ∧ cp.length = b.size ∧ Rt cp b 0
  | .nili, x => x = .nilIface
  | .ifc t v, x => ∃ y, x = .iface t y ∧ RV v y
  | .agg l, x => ∃ c, x = .agg c ∧ l.length = c.size ∧ Rc l c 0
  | .tup l, x => ∃ c, x = .tuple c ∧ l.length = c.size ∧ Rt l c 0
def Rc : List V → Array Value → Nat → Prop
  | [], _, _ => True
  | v :: r, c, o => (∃ x, c[o]? = some x ∧ x.oneCell' = true ∧ RV v x) ∧ Rc r c (o + 1)
def Rt : List V → Array Value → Nat → Prop
  | [], _, _ => True
  | v :: r, c, o => (∃ x, c[o]? = some x ∧ RV v x) ∧ Rt r c (o + 1)
def Rcc : List (List V) → Array Value → Nat → Nat → Prop
  | [], _, _, _ => True
  | e :: r, c, o, sz => (e.length = sz ∧ Rc e c o) ∧ Rcc r c (o + sz) sz
end
end rel

/-- A place of a map's entries. -/
def Re (N : Nat) (ρ : Pl) (I : Nat → Prop) (w : World) : List (V × V) → List MapEntry → Prop
  | [], [] => True
  | (k, v) :: r, e :: es => RV N ρ I w k e.key ∧ RV N ρ I w v e.val ∧ Re N ρ I w r es
  | _, _ => False

def holds (N : Nat) (ρ : Pl) (I : Nat → Prop) (w : World) (p : Nat × Nat) : B → Prop
  | .dead => True
  | .var ty l => p.2 = 0 ∧ ∃ c, w.heap[p.1]? = some (.cells c ty (0, 0)) ∧ c.size = l.length ∧ Rc N ρ I w l c 0
  | .row ty sz es => ∃ c, w.heap[p.1]? = some (.cells c ty (0, 0)) ∧ p.2 + es.length * sz ≤ c.size ∧ Rcc N ρ I w es c p.2 sz
  | .map es => p.2 = 0 ∧ ∃ ents clock, w.heap[p.1]? = some (.map ents clock) ∧ Re N ρ I w es ents.toList

structure Rep (ρ : Pl) (I : Nat → Prop) (m : Mem) (w : World) : Prop where
  blk : ∀ n b, m[n]? = some b → holds m.length ρ I w (ρ n) b
  notI : ∀ n, live m n → ¬ I (ρ n).1
  inj : ∀ n n', live m n → live m n' → (ρ n).1 = (ρ n').1 → n = n'
  ilt : ∀ b, I b → b < w.heap.size

def Own (ρ : Pl) (m : Mem) (b : Nat) : Prop := ∃ n, live m n ∧ (ρ n).1 = b

structure WLe (I : Nat → Prop) (w w' : World) : Prop where
  os : w'.os = w.os
  tape : w'.tape = w.tape
  output : w'.output = w.output
  size : w.heap.size ≤ w'.heap.size
  imm : ∀ b : Nat, I b → w'.heap[b]? = w.heap[b]?
  cells : ∀ (b : Nat) (c : Array Value) (ty : TypeId), w.heap[b]? = some (.cells c ty (0, 0)) → ∃ c', w'.heap[b]? = some (.cells c' ty (0, 0)) ∧ c'.size = c.size

theorem WLe.refl (I : Nat → Prop) (w : World) : WLe I w w := ⟨rfl, rfl, rfl, Nat.le_refl _, fun _ _ => rfl, fun _ c _ h => ⟨c, h, rfl⟩⟩

structure Step (ρ : Pl) (I : Nat → Prop) (m : Mem) (w : World) (ρ' : Pl) (I' : Nat → Prop) (m' : Mem) (w' : World) : Prop where
  len : m.length ≤ m'.length
  rho : ∀ n, n < m.length → ρ' n = ρ n
  dead : ∀ n, n < m.length → live m' n → live m n
  iSub : ∀ b, I b → I' b
  iNew : ∀ b, I' b → I b ∨ w.heap.size ≤ b ∨ Own ρ m b
  own : ∀ b, Own ρ' m' b → w.heap.size ≤ b ∨ Own ρ m b
  wle : WLe I w w'
  frame : ∀ b : Nat, b < w.heap.size → ¬ Own ρ m b → w'.heap[b]? = w.heap[b]?

theorem Step.refl (ρ : Pl) (I : Nat → Prop) (m : Mem) (w : World) : Step ρ I m w ρ I m w :=
  ⟨Nat.le_refl _, fun _ _ => rfl, fun _ _ h => h, fun _ h => h, fun _ h => .inl h, fun _ h => .inr h, WLe.refl _ _, fun _ _ _ => rfl⟩

theorem Step.trans {ρ ρ' ρ'' : Pl} {I I' I'' : Nat → Prop} {m m' m'' : Mem} {w w' w'' : World}
    (h : Step ρ I m w ρ' I' m' w') (k : Step ρ' I' m' w' ρ'' I'' m'' w'') : Step ρ I m w ρ'' I'' m'' w'' where
  len := Nat.le_trans h.len k.len
  rho n hn := (k.rho n (Nat.lt_of_lt_of_le hn h.len)).trans (h.rho n hn)
  dead n hn hl := h.dead n hn (k.dead n (Nat.lt_of_lt_of_le hn h.len) hl)
  iSub b hb := k.iSub b (h.iSub b hb)
  iNew b hb := by
    rcases k.iNew b hb with h1 | h1 | h1
    · exact h.iNew b h1
    · exact .inr (.inl (Nat.le_trans h.wle.size h1))
    · exact .inr (h.own b h1)
  own b hb := by
    rcases k.own b hb with h1 | h1
    · exact .inl (Nat.le_trans h.wle.size h1)
    · exact h.own b h1
  wle := ⟨k.wle.os.trans h.wle.os, k.wle.tape.trans h.wle.tape, k.wle.output.trans h.wle.output, Nat.le_trans h.wle.size k.wle.size,
    fun b hb => (k.wle.imm b (h.iSub b hb)).trans (h.wle.imm b hb),
    fun b c ty hb => by
      obtain ⟨c1, h1, h2⟩ := h.wle.cells b c ty hb
      obtain ⟨c2, h3, h4⟩ := k.wle.cells b c1 ty h1
      exact ⟨c2, h3, h4.trans h2⟩⟩
  frame b hb ho := by
    have h1 := h.frame b hb ho
    rw [k.frame b (Nat.lt_of_lt_of_le hb h.wle.size) (fun h2 => by
      rcases h.own b h2 with h3 | h3
      · omega
      · exact ho h3)]
    exact h1

/-- What is kept of the relation of values. -/
structure Keeps (N : Nat) (ρ : Pl) (I : Nat → Prop) (w : World) (N' : Nat) (ρ' : Pl) (I' : Nat → Prop) (w' : World) : Prop where
  len : N ≤ N'
  rho : ∀ n, n < N → ρ' n = ρ n
  iSub : ∀ b, I b → I' b
  imm : ∀ b : Nat, I b → w'.heap[b]? = w.heap[b]?
  cells : ∀ (b : Nat) (c : Array Value) (ty : TypeId), w.heap[b]? = some (.cells c ty (0, 0)) → ∃ c', w'.heap[b]? = some (.cells c' ty (0, 0)) ∧ c'.size = c.size

theorem Step.keeps {ρ ρ' : Pl} {I I' : Nat → Prop} {m m' : Mem} {w w' : World} (h : Step ρ I m w ρ' I' m' w') :
    Keeps m.length ρ I w m'.length ρ' I' w' := ⟨h.len, h.rho, h.iSub, h.wle.imm, h.wle.cells⟩

section
variable {N N' : Nat} {ρ ρ' : Pl} {I I' : Nat → Prop} {w w' : World}
mutual
theorem RV.keep (h : Keeps N ρ I w N' ρ' I' w') : ∀ (v : V) (x : Value), RV N ρ I w v x → RV N' ρ' I' w' v x
  | .unk, _, _ => by simp [RV]
  | .bool b, x, hx => by simpa [RV] using hx
  | .int k n, x, hx => by simpa [RV] using hx
  | .str s, x, hx => by simpa [RV] using hx
  | .nilp, x, hx => by simpa [RV] using hx
  | .ptr n off, x, hx => by
    simp only [RV] at hx ⊢
    exact ⟨Nat.lt_of_lt_of_le hx.1 h.len, by rw [h.rho n hx.1]; exact hx.2⟩
  | .ep sz n i off, x, hx => by
    simp only [RV] at hx ⊢
    exact ⟨Nat.lt_of_lt_of_le hx.1 h.len, by rw [h.rho n hx.1]; exact hx.2⟩
  | .ip l, x, hx => by
    simp only [RV] at hx ⊢
    obtain ⟨b, o, c, ty, fr, h1, h2, h3, h4⟩ := hx
    exact ⟨b, o, c, ty, fr, h1, h.iSub b h2, by rw [h.imm b h2]; exact h3, Rc.keep h l c o h4⟩
  | .nils, x, hx => by simpa [RV] using hx
  | .sl sz n off len, x, hx => by
    simp only [RV] at hx ⊢
    obtain ⟨h0, o, cap, h1, h2, h3, c, ty, h4, h5⟩ := hx
    obtain ⟨c', h6, h7⟩ := h.cells _ c ty h4
    exact ⟨Nat.lt_of_lt_of_le h0 h.len, o, cap, by rw [h.rho n h0]; exact h1, h2, by rw [h.rho n h0]; exact h3, c', ty, by rw [h.rho n h0]; exact h6, by rw [h7]; exact h5⟩
  | .isl sz es, x, hx => by
    simp only [RV] at hx ⊢
    obtain ⟨a, cap, h1, h2, h3⟩ := hx
    refine ⟨a, cap, h1, h2, ?_⟩
    rcases h3 with h3 | ⟨b, o, c, ty, fr, h3, h4, h5, h6⟩
    · exact .inl h3
    · exact .inr ⟨b, o, c, ty, fr, h3, h.iSub b h4, by rw [h.imm b h4]; exact h5, Rcc.keep h es c o sz h6⟩
  | .nilm, x, hx => by simpa [RV] using hx
  | .mp n, x, hx => by
    simp only [RV] at hx ⊢
    exact ⟨Nat.lt_of_lt_of_le hx.1 h.len, by rw [h.rho n hx.1]; exact hx.2⟩
  | .nilf, x, hx => by simpa [RV] using hx
  | .fn f fi cp, x, hx => by
    simp only [RV] at hx ⊢
    obtain ⟨a, b, h1, h2, h3, h4, h5⟩ := hx
    exact ⟨a, b, h1, h2, Rt.keep h fi a 0 h3, h4, Rt.keep h cp b 0 h5⟩
  | .nili, x, hx => by simpa [RV] using hx
  | .ifc t v, x, hx => by
    simp only [RV] at hx ⊢
    obtain ⟨y, h1, h2⟩ := hx
    exact ⟨y, h1, RV.keep h v y h2⟩
  | .agg l, x, hx => by
    simp only [RV] at hx ⊢
    obtain ⟨c, h1, h2, h3⟩ := hx
    exact ⟨c, h1, h2, Rc.keep h l c 0 h3⟩
  | .tup l, x, hx => by
    simp only [RV] at hx ⊢
    obtain ⟨c, h1, h2, h3⟩ := hx
    exact ⟨c, h1, h2, Rt.keep h l c 0 h3⟩
theorem Rc.keep (h : Keeps N ρ I w N' ρ' I' w') : ∀ (l : List V) (c : Array Value) (o : Nat), Rc N ρ I w l c o → Rc N' ρ' I' w' l c o
  | [], _, _, _ => by simp [Rc]
  | v :: r, c, o, hx => by
    simp only [Rc] at hx ⊢
    obtain ⟨⟨x, h1, h0, h2⟩, h3⟩ := hx
    exact ⟨⟨x, h1, h0, RV.keep h v x h2⟩, Rc.keep h r c (o + 1) h3⟩
theorem Rt.keep (h : Keeps N ρ I w N' ρ' I' w') : ∀ (l : List V) (c : Array Value) (o : Nat), Rt N ρ I w l c o → Rt N' ρ' I' w' l c o
  | [], _, _, _ => by simp [Rt]
  | v :: r, c, o, hx => by
    simp only [Rt] at hx ⊢
    obtain ⟨⟨x, h1, h2⟩, h3⟩ := hx
    exact ⟨⟨x, h1, RV.keep h v x h2⟩, Rt.keep h r c (o + 1) h3⟩
theorem Rcc.keep (h : Keeps N ρ I w N' ρ' I' w') : ∀ (l : List (List V)) (c : Array Value) (o sz : Nat), Rcc N ρ I w l c o sz → Rcc N' ρ' I' w' l c o sz
  | [], _, _, _, _ => by simp [Rcc]
  | e :: r, c, o, sz, hx => by
    simp only [Rcc] at hx ⊢
    obtain ⟨⟨h1, h2⟩, h3⟩ := hx
    exact ⟨⟨h1, Rc.keep h e c o h2⟩, Rcc.keep h r c (o + sz) sz h3⟩
end
theorem Re.keep (h : Keeps N ρ I w N' ρ' I' w') : ∀ (l : List (V × V)) (es : List MapEntry), Re N ρ I w l es → Re N' ρ' I' w' l es
  | [], [], _ => by simp [Re]
  | [], _ :: _, hx => by simp [Re] at hx
  | _ :: _, [], hx => by simp [Re] at hx
  | (k, v) :: r, e :: es, hx => by
    simp only [Re] at hx ⊢
    exact ⟨RV.keep h _ _ hx.1, RV.keep h _ _ hx.2.1, Re.keep h r es hx.2.2⟩
end

/-- Cells by their places. -/
theorem Rc.get {N : Nat} {ρ : Pl} {I : Nat → Prop} {w : World} : ∀ {l : List V} {c : Array Value} {o : Nat}, Rc N ρ I w l c o →
    ∀ i v, l[i]? = some v → ∃ x, c[o + i]? = some x ∧ x.oneCell' = true ∧ RV N ρ I w v x
  | [], _, _, _, i, v, hv => by simp at hv
  | u :: r, c, o, h, 0, v, hv => by
    simp only [Rc] at h
    obtain ⟨⟨x, h1, h2⟩, _⟩ := h
    simp at hv; subst hv
    exact ⟨x, by simpa using h1, h2⟩
  | u :: r, c, o, h, i + 1, v, hv => by
    simp only [Rc] at h
    obtain ⟨x, h1, h2⟩ := Rc.get h.2 i v (by simpa using hv)
    exact ⟨x, by rw [← h1]; congr 1; omega, h2⟩

theorem Rc.mk {N : Nat} {ρ : Pl} {I : Nat → Prop} {w : World} : ∀ {l : List V} {c : Array Value} {o : Nat},
    (∀ i v, l[i]? = some v → ∃ x, c[o + i]? = some x ∧ x.oneCell' = true ∧ RV N ρ I w v x) → Rc N ρ I w l c o
  | [], _, _, _ => by simp [Rc]
  | u :: r, c, o, h => by
    simp only [Rc]
    refine ⟨by simpa using h 0 u rfl, Rc.mk fun i v hv => ?_⟩
    obtain ⟨x, h1, h2⟩ := h (i + 1) v (by simpa using hv)
    exact ⟨x, by rw [← h1]; congr 1; omega, h2⟩

theorem Rt.get {N : Nat} {ρ : Pl} {I : Nat → Prop} {w : World} : ∀ {l : List V} {c : Array Value} {o : Nat}, Rt N ρ I w l c o →
    ∀ i v, l[i]? = some v → ∃ x, c[o + i]? = some x ∧ RV N ρ I w v x
  | [], _, _, _, i, v, hv => by simp at hv
  | u :: r, c, o, h, 0, v, hv => by
    simp only [Rt] at h
    obtain ⟨⟨x, h1, h2⟩, _⟩ := h
    simp at hv; subst hv
    exact ⟨x, by simpa using h1, h2⟩
  | u :: r, c, o, h, i + 1, v, hv => by
    simp only [Rt] at h
    obtain ⟨x, h1, h2⟩ := Rt.get h.2 i v (by simpa using hv)
    exact ⟨x, by rw [← h1]; congr 1; omega, h2⟩

theorem Rt.mk {N : Nat} {ρ : Pl} {I : Nat → Prop} {w : World} : ∀ {l : List V} {c : Array Value} {o : Nat},
    (∀ i v, l[i]? = some v → ∃ x, c[o + i]? = some x ∧ RV N ρ I w v x) → Rt N ρ I w l c o
  | [], _, _, _ => by simp [Rt]
  | u :: r, c, o, h => by
    simp only [Rt]
    refine ⟨by simpa using h 0 u rfl, Rt.mk fun i v hv => ?_⟩
    obtain ⟨x, h1, h2⟩ := h (i + 1) v (by simpa using hv)
    exact ⟨x, by rw [← h1]; congr 1; omega, h2⟩

theorem Rcc.get {N : Nat} {ρ : Pl} {I : Nat → Prop} {w : World} : ∀ {l : List (List V)} {c : Array Value} {o sz : Nat}, Rcc N ρ I w l c o sz →
    ∀ i e, l[i]? = some e → e.length = sz ∧ Rc N ρ I w e c (o + i * sz)
  | [], _, _, _, _, i, v, hv => by simp at hv
  | u :: r, c, o, sz, h, 0, v, hv => by
    simp only [Rcc] at h
    simp at hv; subst hv
    simpa using h.1
  | u :: r, c, o, sz, h, i + 1, v, hv => by
    simp only [Rcc] at h
    have := Rcc.get h.2 i v (by simpa using hv)
    rwa [show o + (i + 1) * sz = o + sz + i * sz by rw [Nat.add_mul]; omega]

theorem Rcc.mk {N : Nat} {ρ : Pl} {I : Nat → Prop} {w : World} : ∀ {l : List (List V)} {c : Array Value} {o sz : Nat},
    (∀ i e, l[i]? = some e → e.length = sz ∧ Rc N ρ I w e c (o + i * sz)) → Rcc N ρ I w l c o sz
  | [], _, _, _, _ => by simp [Rcc]
  | u :: r, c, o, sz, h => by
    simp only [Rcc]
    refine ⟨by simpa using h 0 u rfl, Rcc.mk fun i v hv => ?_⟩
    have := h (i + 1) v (by simpa using hv)
    rwa [show o + (i + 1) * sz = o + sz + i * sz by rw [Nat.add_mul]; omega] at this

end Go.Proofs.Ytnhejkfbnjopjaa.Ab
