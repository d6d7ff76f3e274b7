/- How the relation of memory goes on behind a new block, a write, a block that is given up. No condition. -/
import Derived.Test.YtnhejkfbnjopjaaAbs1
namespace Go.Proofs.Ytnhejkfbnjopjaa.Ab
open Go
set_option linter.unusedSimpArgs false
set_option linter.unusedVariables false

section
variable {ρ : Pl} {I : Nat → Prop} {m : Mem} {w w' : World}

theorem holds.lt {N : Nat} {p : Nat × Nat} {b : B} (hb : b.live = true) (h : holds N ρ I w p b) : p.1 < w.heap.size := by
  cases b with
  | dead => cases hb
  | var ty l => obtain ⟨_, c, h1, _⟩ := h; exact (Array.getElem?_eq_some_iff.1 h1).1
  | row ty sz es => obtain ⟨c, h1, _⟩ := h; exact (Array.getElem?_eq_some_iff.1 h1).1
  | map es => obtain ⟨_, c, k, h1, _⟩ := h; exact (Array.getElem?_eq_some_iff.1 h1).1

theorem Rep.live_lt (hr : Rep ρ I m w) {n : Nat} (hl : live m n) : (ρ n).1 < w.heap.size := by
  obtain ⟨b, hb, h⟩ := hl
  exact (hr.blk n b hb).lt h

theorem holds.keep {N N' : Nat} {ρ' : Pl} {I' : Nat → Prop} {p : Nat × Nat} {b : B} (hk : Keeps N ρ I w N' ρ' I' w') (hb : w'.heap[p.1]? = w.heap[p.1]?)
    (h : holds N ρ I w p b) : holds N' ρ' I' w' p b := by
  cases b with
  | dead => trivial
  | var ty l => obtain ⟨h0, c, h1, h2, h3⟩ := h; exact ⟨h0, c, by rw [hb]; exact h1, h2, Rc.keep hk _ _ _ h3⟩
  | row ty sz es => obtain ⟨c, h1, h2, h3⟩ := h; exact ⟨c, by rw [hb]; exact h1, h2, Rcc.keep hk _ _ _ _ h3⟩
  | map es => obtain ⟨h0, c, k, h1, h2⟩ := h; exact ⟨h0, c, k, by rw [hb]; exact h1, Re.keep hk _ _ h2⟩

/-- A world that differs in its draws alone. -/
structure Same (w w' : World) : Prop where
  os : w'.os = w.os
  tape : w'.tape = w.tape
  output : w'.output = w.output
  heap : w'.heap = w.heap

theorem Same.drew (w : World) : Same w w.drew := ⟨rfl, rfl, rfl, rfl⟩
theorem Same.refl (w : World) : Same w w := ⟨rfl, rfl, rfl, rfl⟩

theorem WLe.of_same (h : Same w w') : WLe I w w' :=
  ⟨h.os, h.tape, h.output, by rw [h.heap]; exact Nat.le_refl _, fun b _ => by rw [h.heap], fun b c ty hb => ⟨c, by rw [h.heap]; exact hb, rfl⟩⟩

theorem Keeps.of_same {N : Nat} (h : Same w w') : Keeps N ρ I w N ρ I w' :=
  ⟨Nat.le_refl _, fun _ _ => rfl, fun _ h => h, fun b _ => by rw [h.heap], fun b c ty hb => ⟨c, by rw [h.heap]; exact hb, rfl⟩⟩

theorem Rep.same (hr : Rep ρ I m w) (h : Same w w') : Rep ρ I m w' ∧ Step ρ I m w ρ I m w' :=
  ⟨⟨fun n b hb => (hr.blk n b hb).keep (Keeps.of_same h) (by rw [h.heap]), hr.notI, hr.inj, fun b hb => by rw [h.heap]; exact hr.ilt b hb⟩,
   ⟨Nat.le_refl _, fun _ _ => rfl, fun _ _ h => h, fun _ h => h, fun _ h => .inl h, fun _ h => .inr h, WLe.of_same h, fun b _ _ => by rw [h.heap]⟩⟩

theorem live_set {m : Mem} {n k : Nat} {b : B} (h : live (m.set n b) k) : (k = n ∧ b.live = true) ∨ (k ≠ n ∧ live m k) := by
  obtain ⟨c, hc, hl⟩ := h
  by_cases hk : k = n
  · subst hk
    have hlt : k < m.length := by
      have := (List.getElem?_eq_some_iff.1 hc).1
      simpa using this
    rw [List.getElem?_set_self hlt] at hc
    cases hc
    exact .inl ⟨rfl, hl⟩
  · rw [List.getElem?_set_ne (fun h => hk h.symm)] at hc
    exact .inr ⟨hk, c, hc, hl⟩

/-- A block of the call's own is written. -/
theorem Rep.write (hr : Rep ρ I m w) {n : Nat} (hl : live m n) (b' : B)
    (hos : w'.os = w.os) (htape : w'.tape = w.tape) (hout : w'.output = w.output) (hsz : w'.heap.size = w.heap.size)
    (hne : ∀ k, k ≠ (ρ n).1 → w'.heap[k]? = w.heap[k]?)
    (hcell : ∀ (c : Array Value) (ty : TypeId), w.heap[(ρ n).1]? = some (.cells c ty (0, 0)) → ∃ c', w'.heap[(ρ n).1]? = some (.cells c' ty (0, 0)) ∧ c'.size = c.size)
    (hb' : Keeps m.length ρ I w m.length ρ I w' → holds m.length ρ I w' (ρ n) b') :
    Rep ρ I (m.set n b') w' ∧ Step ρ I m w ρ I (m.set n b') w' := by
  have hI : ∀ b : Nat, I b → w'.heap[b]? = w.heap[b]? := fun b hb => hne b (fun e => hr.notI n hl (e ▸ hb))
  have hcells : ∀ (b : Nat) (c : Array Value) (ty : TypeId), w.heap[b]? = some (.cells c ty (0, 0)) → ∃ c', w'.heap[b]? = some (.cells c' ty (0, 0)) ∧ c'.size = c.size := by
    intro b c ty hb
    by_cases h : b = (ρ n).1
    · subst h; exact hcell c ty hb
    · exact ⟨c, by rw [hne b h]; exact hb, rfl⟩
  have hk : Keeps m.length ρ I w m.length ρ I w' := ⟨Nat.le_refl _, fun _ _ => rfl, fun _ h => h, hI, hcells⟩
  have hn := Ab.live_lt hl
  refine ⟨⟨?_, ?_, ?_, ?_⟩, ⟨by simp, fun _ _ => rfl, ?_, fun _ h => h, fun _ h => .inl h, ?_, ⟨hos, htape, hout, by omega, hI, hcells⟩, fun b hb ho => hne b (fun e => ho ⟨n, hl, e.symm⟩)⟩⟩
  · intro k b hb
    rw [List.length_set]
    by_cases hkn : k = n
    · subst hkn
      rw [List.getElem?_set_self hn] at hb
      cases hb
      exact hb' hk
    · rw [List.getElem?_set_ne (fun h => hkn h.symm)] at hb
      by_cases hlv : b.live = true
      · exact (hr.blk k b hb).keep hk (hne _ (fun e => hkn (hr.inj k n ⟨b, hb, hlv⟩ hl e)))
      · cases b <;> first | trivial | exact absurd rfl hlv
  · intro k hk'
    rcases live_set hk' with ⟨rfl, _⟩ | ⟨_, h⟩
    · exact hr.notI k hl
    · exact hr.notI k h
  · intro k k' h1 h2 e
    rcases live_set h1 with ⟨g1, _⟩ | ⟨_, g1⟩ <;> rcases live_set h2 with ⟨g2, _⟩ | ⟨_, g2⟩
    · rw [g1, g2]
    · rw [g1] at e ⊢; exact hr.inj _ _ hl g2 e
    · rw [g2] at e ⊢; exact hr.inj _ _ g1 hl e
    · exact hr.inj _ _ g1 g2 e
  · intro b hb; have := hr.ilt b hb; omega
  · intro k _ h
    rcases live_set h with ⟨rfl, _⟩ | ⟨_, h⟩
    · exact hl
    · exact h
  · rintro b ⟨k, h1, h2⟩
    rcases live_set h1 with ⟨rfl, _⟩ | ⟨_, h1⟩
    · exact .inr ⟨k, hl, h2⟩
    · exact .inr ⟨k, h1, h2⟩

/-- A name is given up. -/
theorem Rep.kill (hr : Rep ρ I m w) (n : Nat) : Rep ρ I (m.set n .dead) w ∧ Step ρ I m w ρ I (m.set n .dead) w := by
  have hlv : ∀ k, live (m.set n .dead) k → k ≠ n ∧ live m k := fun k h => by
    rcases live_set h with ⟨_, h⟩ | h
    · cases h
    · exact h
  refine ⟨⟨?_, fun k h => hr.notI k (hlv k h).2, fun k k' h h' e => hr.inj k k' (hlv k h).2 (hlv k' h').2 e, hr.ilt⟩,
    ⟨by simp, fun _ _ => rfl, fun k _ h => (hlv k h).2, fun _ h => h, fun _ h => .inl h, fun b ⟨k, h, e⟩ => .inr ⟨k, (hlv k h).2, e⟩, WLe.refl _ _, fun _ _ _ => rfl⟩⟩
  intro k b hb
  rw [List.length_set]
  by_cases hkn : k = n
  · subst hkn
    have hlt : k < m.length := by have := (List.getElem?_eq_some_iff.1 hb).1; simpa using this
    rw [List.getElem?_set_self hlt] at hb
    cases hb; trivial
  · rw [List.getElem?_set_ne (fun h => hkn h.symm)] at hb
    exact hr.blk k b hb

/-- A name is given up; its block is never written again. -/
theorem Rep.freeze (hr : Rep ρ I m w) {n : Nat} (hl : live m n) :
    Rep ρ (fun b => I b ∨ b = (ρ n).1) (m.set n .dead) w ∧ Step ρ I m w ρ (fun b => I b ∨ b = (ρ n).1) (m.set n .dead) w := by
  have hlv : ∀ k, live (m.set n .dead) k → k ≠ n ∧ live m k := fun k h => by
    rcases live_set h with ⟨_, h⟩ | h
    · cases h
    · exact h
  have hk : Keeps m.length ρ I w m.length ρ (fun b => I b ∨ b = (ρ n).1) w := ⟨Nat.le_refl _, fun _ _ => rfl, fun _ h => .inl h, fun _ _ => rfl, fun _ c _ h => ⟨c, h, rfl⟩⟩
  refine ⟨⟨?_, ?_, fun k k' h h' e => hr.inj k k' (hlv k h).2 (hlv k' h').2 e, ?_⟩,
    ⟨by simp, fun _ _ => rfl, fun k _ h => (hlv k h).2, fun _ h => .inl h, ?_, fun b ⟨k, h, e⟩ => .inr ⟨k, (hlv k h).2, e⟩, WLe.refl _ _, fun _ _ _ => rfl⟩⟩
  · intro k b hb
    rw [List.length_set]
    by_cases hkn : k = n
    · subst hkn
      have hlt : k < m.length := by have := (List.getElem?_eq_some_iff.1 hb).1; simpa using this
      rw [List.getElem?_set_self hlt] at hb
      cases hb; trivial
    · rw [List.getElem?_set_ne (fun h => hkn h.symm)] at hb
      exact (hr.blk k b hb).keep hk rfl
  · rintro k h (h1 | h1)
    · exact hr.notI k (hlv k h).2 h1
    · exact (hlv k h).1 (hr.inj k n (hlv k h).2 hl h1)
  · rintro b (h | rfl)
    · exact hr.ilt b h
    · exact hr.live_lt hl
  · rintro b (h | rfl)
    · exact .inl h
    · exact .inr (.inr ⟨n, hl, rfl⟩)

def Pl.put (ρ : Pl) (n : Nat) (p : Nat × Nat) : Pl := fun k => if k = n then p else ρ k
theorem Pl.put_self (ρ : Pl) (n : Nat) (p : Nat × Nat) : ρ.put n p n = p := by simp [Pl.put]
theorem Pl.put_lt (ρ : Pl) {n k : Nat} (p : Nat × Nat) (h : k < n) : ρ.put n p k = ρ k := by simp [Pl.put]; omega

theorem heap_push_lt (w : World) (o : Obj) {k : Nat} (h : k < w.heap.size) : (w.alloc o).heap[k]? = w.heap[k]? := by rw [show (w.alloc o).heap = w.heap.push o from rfl, Array.getElem?_push, if_neg (Nat.ne_of_lt h)]

theorem Keeps.alloc {N : Nat} (w : World) (o : Obj) (p : Nat × Nat) (hi : ∀ b, I b → b < w.heap.size) : Keeps N ρ I w (N + 1) (ρ.put N p) I (w.alloc o) :=
  ⟨by omega, fun n h => Pl.put_lt ρ p h, fun _ h => h, fun b hb => heap_push_lt w o (hi b hb),
   fun b c ty hb => ⟨c, by rw [heap_push_lt w o (Array.getElem?_eq_some_iff.1 hb).1]; exact hb, rfl⟩⟩

theorem live_snoc {m : Mem} {b : B} {k : Nat} (h : live (m ++ [b]) k) : (k = m.length ∧ b.live = true) ∨ live m k := by
  obtain ⟨c, hc, hl⟩ := h
  rcases Nat.lt_trichotomy k m.length with h | h | h
  · rw [List.getElem?_append_left h] at hc
    exact .inr ⟨c, hc, hl⟩
  · subst h
    simp at hc
    subst hc
    exact .inl ⟨rfl, hl⟩
  · rw [List.getElem?_eq_none (by simp; omega)] at hc
    cases hc

/-- A new block. -/
theorem Rep.alloc (hr : Rep ρ I m w) (o : Obj) (b : B)
    (hb : Keeps m.length ρ I w (m.length + 1) (ρ.put m.length (w.heap.size, 0)) I (w.alloc o) → holds (m.length + 1) (ρ.put m.length (w.heap.size, 0)) I (w.alloc o) (w.heap.size, 0) b) :
    Rep (ρ.put m.length (w.heap.size, 0)) I (m ++ [b]) (w.alloc o) ∧ Step ρ I m w (ρ.put m.length (w.heap.size, 0)) I (m ++ [b]) (w.alloc o) := by
  have hk := Keeps.alloc (N := m.length) (ρ := ρ) w o (w.heap.size, 0) hr.ilt
  have hlen : (m ++ [b]).length = m.length + 1 := by simp
  refine ⟨⟨?_, ?_, ?_, ?_⟩, ⟨by simp, hk.rho, ?_, fun _ h => h, fun _ h => .inl h, ?_, ⟨rfl, rfl, rfl, by simp, hk.imm, hk.cells⟩, fun k h _ => heap_push_lt w o h⟩⟩
  · intro n c hc
    rw [hlen]
    by_cases hn : n < m.length
    · rw [List.getElem?_append_left hn] at hc
      rw [Pl.put_lt ρ _ hn]
      by_cases hl : c.live = true
      · exact (hr.blk n c hc).keep hk (heap_push_lt w o ((hr.blk n c hc).lt hl))
      · cases c <;> first | trivial | exact absurd rfl hl
    · have hn' : n = m.length := by
        have := (List.getElem?_eq_some_iff.1 hc).1
        simp at this; omega
      subst hn'
      simp at hc
      subst hc
      rw [Pl.put_self]
      exact hb hk
  · intro k h
    rcases live_snoc h with ⟨rfl, _⟩ | h
    · rw [Pl.put_self]
      exact fun h => absurd (hr.ilt _ h) (Nat.lt_irrefl _)
    · rw [Pl.put_lt ρ _ (Ab.live_lt h)]
      exact hr.notI k h
  · intro k k' h h' e
    rcases live_snoc h with ⟨rfl, _⟩ | h <;> rcases live_snoc h' with ⟨rfl, _⟩ | h'
    · rfl
    · rw [Pl.put_self, Pl.put_lt ρ _ (Ab.live_lt h')] at e
      have := hr.live_lt h'
      simp at e; omega
    · rw [Pl.put_self, Pl.put_lt ρ _ (Ab.live_lt h)] at e
      have := hr.live_lt h
      simp at e; omega
    · rw [Pl.put_lt ρ _ (Ab.live_lt h), Pl.put_lt ρ _ (Ab.live_lt h')] at e
      exact hr.inj k k' h h' e
  · intro k h
    have := hr.ilt k h
    simp; omega
  · intro k hn h
    rcases live_snoc h with ⟨rfl, _⟩ | h
    · exact absurd hn (Nat.lt_irrefl _)
    · exact h
  · rintro k ⟨n, h, e⟩
    rcases live_snoc h with ⟨rfl, _⟩ | h
    · rw [Pl.put_self] at e
      exact .inl (by simp at e; omega)
    · rw [Pl.put_lt ρ _ (Ab.live_lt h)] at e
      exact .inr ⟨n, h, e⟩

/-- A block goes on under a new name (its old one is given up), at a place in the same block. -/
theorem Rep.rename (hr : Rep ρ I m w) {n : Nat} (hl : live m n) (p : Nat × Nat) (hp : p.1 = (ρ n).1) (b : B)
    (hb : Keeps m.length ρ I w (m.length + 1) (ρ.put m.length p) I w → holds (m.length + 1) (ρ.put m.length p) I w p b) :
    Rep (ρ.put m.length p) I (m.set n .dead ++ [b]) w ∧ Step ρ I m w (ρ.put m.length p) I (m.set n .dead ++ [b]) w := by
  have hk : Keeps m.length ρ I w (m.length + 1) (ρ.put m.length p) I w := ⟨by omega, fun k h => Pl.put_lt ρ p h, fun _ h => h, fun _ _ => rfl, fun _ c _ h => ⟨c, h, rfl⟩⟩
  have hsl : (m.set n .dead).length = m.length := by simp
  have hlv : ∀ k, live (m.set n .dead ++ [b]) k → k = m.length ∨ (k ≠ n ∧ live m k) := by
    intro k h
    rcases live_snoc h with ⟨h, _⟩ | h
    · exact .inl (by rw [h, hsl])
    · rcases live_set h with ⟨_, h⟩ | h
      · cases h
      · exact .inr h
  refine ⟨⟨?_, ?_, ?_, hr.ilt⟩, ⟨by simp, hk.rho, ?_, fun _ h => h, fun _ h => .inl h, ?_, WLe.refl _ _, fun _ _ _ => rfl⟩⟩
  · intro k c hc
    have hlen : (m.set n .dead ++ [b]).length = m.length + 1 := by simp
    rw [hlen]
    by_cases hn : k < m.length
    · rw [List.getElem?_append_left (by rw [hsl]; exact hn)] at hc
      rw [Pl.put_lt ρ _ hn]
      by_cases hkn : k = n
      · subst hkn
        rw [List.getElem?_set_self hn] at hc
        cases hc; trivial
      · rw [List.getElem?_set_ne (fun h => hkn h.symm)] at hc
        exact (hr.blk k c hc).keep hk rfl
    · have hn' : k = m.length := by
        have := (List.getElem?_eq_some_iff.1 hc).1
        rw [hlen] at this; omega
      subst hn'
      rw [List.getElem?_append_right (by rw [hsl]; exact Nat.le_refl _)] at hc
      simp at hc
      subst hc
      rw [Pl.put_self]
      exact hb hk
  · intro k h
    rcases hlv k h with rfl | ⟨_, h⟩
    · rw [Pl.put_self, hp]; exact hr.notI n hl
    · rw [Pl.put_lt ρ _ (Ab.live_lt h)]; exact hr.notI k h
  · intro k k' h h' e
    rcases hlv k h with rfl | ⟨hkn, h⟩ <;> rcases hlv k' h' with rfl | ⟨hkn', h'⟩
    · rfl
    · rw [Pl.put_self, Pl.put_lt ρ _ (Ab.live_lt h'), hp] at e
      exact absurd (hr.inj n k' hl h' e).symm hkn'
    · rw [Pl.put_self, Pl.put_lt ρ _ (Ab.live_lt h), hp] at e
      exact absurd (hr.inj k n h hl e) hkn
    · rw [Pl.put_lt ρ _ (Ab.live_lt h), Pl.put_lt ρ _ (Ab.live_lt h')] at e
      exact hr.inj k k' h h' e
  · intro k hn h
    rcases hlv k h with rfl | ⟨_, h⟩
    · exact absurd hn (Nat.lt_irrefl _)
    · exact h
  · rintro k ⟨j, h, e⟩
    rcases hlv j h with rfl | ⟨_, h⟩
    · rw [Pl.put_self, hp] at e
      exact .inr ⟨n, hl, e⟩
    · rw [Pl.put_lt ρ _ (Ab.live_lt h)] at e
      exact .inr ⟨j, h, e⟩
end

end Go.Proofs.Ytnhejkfbnjopjaa.Ab
