/- Calls of the evaluator: what a callee sees of memory, and how it comes back. No condition. -/
import Derived.Test.YtnhejkfbnjopjaaAbs10
namespace Go.Proofs.Ytnhejkfbnjopjaa.Ab
open Go
set_option linter.unusedSimpArgs false
set_option linter.unusedVariables false

inductive CR where
  | ret (v : V) (m : Mem)
  | pan (v : V) (m : Mem)

def CR.val : CR → V
  | .ret v _ => v
  | .pan v _ => v
def CR.mem : CR → Mem
  | .ret _ m => m
  | .pan _ m => m

def endOf : CR → Value → Ending
  | .ret _ _, x => .returned x
  | .pan _ _, x => .panicked [{ v := x, recovered := false }]

/-- What a call has come to. -/
def Post (ρ : Pl) (I : Nat → Prop) (m : Mem) (w : World) (r : CR) (e : Ending) (w' : World) : Prop :=
  ∃ x ρ' I', e = endOf r x ∧ Rep ρ' I' r.mem w' ∧ Step ρ I m w ρ' I' r.mem w' ∧ RV r.mem.length ρ' I' w' r.val x

/-- A contract of a function: on these values in this memory the machine's call ends as one of Q says. -/
def Snd (P : Program) (f : FuncId) (vs : List V) (m : Mem) (Q : CR → Prop) : Prop :=
  ∀ (ρ : Pl) (I : Nat → Prop) (w : World) (xs : Array Value), Rep ρ I m w → vs.length = xs.size → Rt m.length ρ I w vs xs 0 →
    Calls P f xs w fun e w' => ∃ r, Q r ∧ Post ρ I m w r e w'

theorem Snd.mono {P : Program} {f : FuncId} {vs : List V} {m : Mem} {Q Q' : CR → Prop} (h : Snd P f vs m Q) (hq : ∀ r, Q r → Q' r) : Snd P f vs m Q' :=
  fun ρ I w xs h1 h2 h3 => (h ρ I w xs h1 h2 h3).mono fun _ _ ⟨r, h4, h5⟩ => ⟨r, hq r h4, h5⟩

mutual
def nms : V → List Nat
  | .ptr n _ => [n]
  | .ep _ n _ _ => [n]
  | .sl _ n _ _ => [n]
  | .mp n => [n]
  | .fn _ a b => nmss a ++ nmss b
  | .ifc _ v => nms v
  | .agg l => nmss l
  | .tup l => nmss l
  | _ => []
def nmss : List V → List Nat
  | [] => []
  | v :: r => nms v ++ nmss r
end

def nmsB : B → List Nat
  | .var _ l => nmss l
  | _ => []

/-- The names that are reached, in order. -/
def reach (m : Mem) : Nat → List Nat → List Nat → List Nat
  | 0, _, seen => seen
  | _ + 1, [], seen => seen
  | k + 1, n :: todo, seen => bif seen.contains n then reach m k todo seen else reach m k (todo ++ nmsB (m.getD n .dead)) (seen ++ [n])

def idx : List Nat → Nat → Nat
  | [], _ => 0
  | k :: r, n => bif Nat.beq k n then 0 else idx r n + 1

def nodupB : List Nat → Bool
  | [] => true
  | n :: r => !r.contains n && nodupB r

theorem nodupB_iff : ∀ l, nodupB l = true → l.Nodup
  | [], _ => List.nodup_nil
  | n :: r, h => by
    simp only [nodupB, Bool.and_eq_true, Bool.not_eq_true', List.contains_eq_mem, decide_eq_false_iff_not] at h
    exact List.nodup_cons.2 ⟨h.1, nodupB_iff r h.2⟩

theorem idx_lt : ∀ {l : List Nat} {n : Nat}, n ∈ l → idx l n < l.length
  | k :: r, n, h => by
    simp only [idx]
    cases hk : Nat.beq k n with
    | true => simp
    | false =>
      have : k ≠ n := fun e => by rw [e] at hk; simp at hk
      have := idx_lt (l := r) (by simpa [this.symm] using h)
      simp only [cond_false, List.length_cons]; omega

theorem idx_get : ∀ {l : List Nat} {n : Nat}, n ∈ l → l[idx l n]? = some n
  | k :: r, n, h => by
    simp only [idx]
    cases hk : Nat.beq k n with
    | true => simp; exact Nat.eq_of_beq_eq_true hk
    | false =>
      have : k ≠ n := fun e => by rw [e] at hk; simp at hk
      simp only [cond_false, List.getElem?_cons_succ]
      exact idx_get (l := r) (by simpa [this.symm] using h)

/-- The part of memory that has these names. -/
def view (L : List Nat) (m : Mem) : Mem := L.map fun n => renB (idx L) (m.getD n .dead)

/-- Is this part closed? -/
def closedB (L : List Nat) (m : Mem) : Bool :=
  nodupB L && (L.all (fun n => Nat.blt n m.length) && L.all fun n => inDB (fun k => L.contains k) (m.getD n .dead))

section
variable {P : Program} {ρ : Pl} {I : Nat → Prop} {w : World} {m : Mem}

theorem view_get {L : List Nat} {i : Nat} {b : B} (h : (view L m)[i]? = some b) : ∃ n, L[i]? = some n ∧ b = renB (idx L) (m.getD n .dead) := by
  unfold view at h
  simp only [List.getElem?_map, Option.map_eq_some_iff] at h
  obtain ⟨n, h1, h2⟩ := h
  exact ⟨n, h1, h2.symm⟩

theorem getD_of {L : List Nat} {i n : Nat} (h : L[i]? = some n) : L.getD i 0 = n := by simp [List.getD, h]

theorem closed_parts {L : List Nat} (h : closedB L m = true) : L.Nodup ∧ (∀ n ∈ L, n < m.length) ∧ ∀ n ∈ L, inDB (fun k => L.contains k) (m.getD n .dead) = true := by
  unfold closedB at h
  simp only [Bool.and_eq_true, List.all_eq_true, Nat.blt_eq] at h
  exact ⟨nodupB_iff L h.1, h.2.1, h.2.2⟩

/-- How names go over into a view. -/
theorem view_names {L : List Nat} : ∀ n, (fun k => L.contains k) n = true → n < m.length → idx L n < (view L m).length ∧ (fun i => ρ (L.getD i 0)) (idx L n) = ρ n := by
  intro n hn _
  have hn' : n ∈ L := by simpa using hn
  exact ⟨by simp [view]; exact idx_lt hn', by simp only [getD_of (idx_get hn')]⟩

theorem live_view {L : List Nat} {i : Nat} (h : live (view L m) i) : ∃ n, L[i]? = some n ∧ live m n := by
  obtain ⟨b, hb, hl⟩ := h
  obtain ⟨n, h1, rfl⟩ := view_get hb
  rw [renB_live] at hl
  refine ⟨n, h1, m.getD n .dead, ?_, hl⟩
  cases hm : m[n]? with
  | none => simp [List.getD, hm, B.live] at hl
  | some b => simp [List.getD, hm]

theorem live_view' {L : List Nat} {i n : Nat} (h : L[i]? = some n) (hl : live m n) : live (view L m) i := by
  obtain ⟨b, hb, hl⟩ := hl
  refine ⟨renB (idx L) b, ?_, by rw [renB_live]; exact hl⟩
  simp [view, h, List.getD, hb]

theorem Rep.view (hr : Rep ρ I m w) {L : List Nat} (hc : closedB L m = true) : Rep (fun i => ρ (L.getD i 0)) I (view L m) w := by
  obtain ⟨h1, h2, h3⟩ := closed_parts hc
  refine ⟨?_, ?_, ?_, hr.ilt⟩
  · intro i b hb
    obtain ⟨n, k1, rfl⟩ := view_get hb
    have hn := List.mem_of_getElem? k1
    have hlt := h2 n hn
    simp only [getD_of k1]
    refine holds_sub (D := fun k => L.contains k) (N := m.length) (fun k hk hkm => view_names (ρ := ρ) (m := m) k hk hkm) (h3 n hn) ?_
    have : m[n]? = some (m.getD n .dead) := by simp [List.getD, List.getElem?_eq_getElem hlt]
    exact hr.blk n _ this
  · intro i hi
    obtain ⟨n, k1, k2⟩ := live_view hi
    simp only [getD_of k1]
    exact hr.notI n k2
  · intro i j hi hj e
    obtain ⟨n, k1, k2⟩ := live_view hi
    obtain ⟨n', k3, k4⟩ := live_view hj
    simp only [getD_of k1, getD_of k3] at e
    have := hr.inj n n' k2 k4 e
    subst this
    have hil := (List.getElem?_eq_some_iff.1 k1).1
    have hjl := (List.getElem?_eq_some_iff.1 k3).1
    exact (List.getElem?_inj hil h1).1 (k1.trans k3.symm)

theorem own_view {L : List Nat} {b : Nat} : Own (fun i => ρ (L.getD i 0)) (view L m) b ↔ ∃ n ∈ L, live m n ∧ (ρ n).1 = b := by
  constructor
  · rintro ⟨i, h1, h2⟩
    obtain ⟨n, k1, k2⟩ := live_view h1
    simp only [getD_of k1] at h2
    exact ⟨n, List.mem_of_getElem? k1, k2, h2⟩
  · rintro ⟨n, h1, h2, h3⟩
    obtain ⟨i, hi⟩ := List.getElem?_of_mem h1
    exact ⟨i, live_view' hi h2, by simp only [getD_of hi]; exact h3⟩

/-- The blocks of a list of names are set. -/
def setAll (m : Mem) : List Nat → List B → Mem
  | [], _ => m
  | _ :: _, [] => m
  | n :: L, b :: bs => setAll (m.set n b) L bs

theorem setAll_length : ∀ (L : List Nat) (bs : List B) (m : Mem), (setAll m L bs).length = m.length
  | [], _, _ => by simp only [setAll]
  | _ :: _, [], _ => by simp only [setAll]
  | n :: L, b :: bs, m => by simp only [setAll, setAll_length L bs, List.length_set]

theorem setAll_out : ∀ (L : List Nat) (bs : List B) (m : Mem) (k : Nat), k ∉ L → (setAll m L bs)[k]? = m[k]?
  | [], _, _, _, _ => by simp only [setAll]
  | _ :: _, [], _, _, _ => by simp only [setAll]
  | n :: L, b :: bs, m, k, h => by
    simp only [List.mem_cons, not_or] at h
    simp only [setAll]
    rw [setAll_out L bs _ k h.2, List.getElem?_set_ne (fun e => h.1 e.symm)]

theorem setAll_in : ∀ (L : List Nat) (bs : List B) (m : Mem) (i n : Nat) (b : B), L.Nodup → L[i]? = some n → bs[i]? = some b → n < m.length → (setAll m L bs)[n]? = some b
  | [], _, _, _, _, _, _, h, _, _ => by simp at h
  | _ :: _, [], _, _, _, _, _, _, h, _ => by simp at h
  | k :: L, c :: bs, m, 0, n, b, hn, h1, h2, h3 => by
    simp at h1 h2
    subst h1; subst h2
    simp only [setAll]
    rw [setAll_out L bs _ k (List.nodup_cons.1 hn).1, List.getElem?_set_self h3]
  | k :: L, c :: bs, m, i + 1, n, b, hn, h1, h2, h3 => by
    simp only [setAll]
    exact setAll_in L bs _ i n b (List.nodup_cons.1 hn).2 (by simpa using h1) (by simpa using h2) (by simpa using h3)

/-- How names come back: those of the view to their own ones, the rest behind all that were there. -/
def back (L : List Nat) (N : Nat) (i : Nat) : Nat := bif Nat.blt i L.length then L.getD i 0 else N + (i - L.length)

def merge (L : List Nat) (m m1 : Mem) : Mem :=
  setAll m L ((m1.take L.length).map (renB (back L m.length))) ++ (m1.drop L.length).map (renB (back L m.length))

theorem merge_length (L : List Nat) (m m1 : Mem) : (merge L m m1).length = m.length + (m1.length - L.length) := by
  simp [merge, setAll_length]

def okBack (L : List Nat) (v : V) (m1 : Mem) : Bool :=
  inD (fun _ => true) v && (m1.all (inDB fun _ => true) && Nat.ble L.length m1.length)

theorem back_lt {L : List Nat} {N i : Nat} (h : i < L.length) : back L N i = L.getD i 0 := by
  have : Nat.blt i L.length = true := by simpa using h
  simp [back, this]
theorem back_ge {L : List Nat} {N i : Nat} (h : ¬ i < L.length) : back L N i = N + (i - L.length) := by
  have : Nat.blt i L.length = false := by
    cases hb : Nat.blt i L.length with
    | false => rfl
    | true => exact absurd (by simpa using hb) h
  simp [back, this]

/-- Memory behind a call that has seen a part of it. -/
theorem Rep.merge (hr : Rep ρ I m w) {L : List Nat} (hc : closedB L m = true) {ρ1 : Pl} {I1 : Nat → Prop} {m1 : Mem} {w1 : World} (hr1 : Rep ρ1 I1 m1 w1)
    (hs : Step (fun i => ρ (L.getD i 0)) I (Ab.view L m) w ρ1 I1 m1 w1) (hall : m1.all (inDB fun _ => true) = true) :
    ∃ ρ' : Pl, Rep ρ' I1 (Ab.merge L m m1) w1 ∧ Step ρ I m w ρ' I1 (Ab.merge L m m1) w1 ∧
      ∀ v x, inD (fun _ => true) v = true → RV m1.length ρ1 I1 w1 v x → RV (Ab.merge L m m1).length ρ' I1 w1 (ren (back L m.length) v) x := by
  obtain ⟨c1, c2, c3⟩ := closed_parts hc
  have hLv : (Ab.view L m).length = L.length := by simp [Ab.view]
  have hlen1 : L.length ≤ m1.length := by have := hs.len; omega
  let ρ' : Pl := fun n => if n < m.length then ρ n else ρ1 (L.length + (n - m.length))
  have hρlt : ∀ n, n < m.length → ρ' n = ρ n := fun n h => if_pos h
  have hρ1 : ∀ i n, L[i]? = some n → ρ1 i = ρ n := fun i n h => by
    rw [hs.rho i (by rw [hLv]; exact (List.getElem?_eq_some_iff.1 h).1)]
    simp only [getD_of h]
  have hτ : ∀ k, (fun _ : Nat => true) k = true → k < m1.length → back L m.length k < (Ab.merge L m m1).length ∧ ρ' (back L m.length k) = ρ1 k := by
    intro k _ hk
    by_cases h : k < L.length
    · have hk' := List.getElem?_eq_getElem h
      rw [back_lt h, getD_of hk']
      have hm := c2 _ (List.getElem_mem h)
      exact ⟨by rw [merge_length]; omega, by rw [hρlt _ hm, hρ1 k _ hk']⟩
    · rw [back_ge h]
      refine ⟨by rw [merge_length]; omega, ?_⟩
      show (if m.length + (k - L.length) < m.length then _ else _) = _
      rw [if_neg (by omega)]
      congr 1; omega
  have hval : ∀ v x, inD (fun _ => true) v = true → RV m1.length ρ1 I1 w1 v x → RV (Ab.merge L m m1).length ρ' I1 w1 (ren (back L m.length) v) x := fun v x h1 h2 => RV_sub hτ v x h1 h2
  -- the blocks of the merged memory
  have hget : ∀ n b, (Ab.merge L m m1)[n]? = some b → (n < m.length ∧ n ∉ L ∧ m[n]? = some b) ∨
      (∃ (i : Nat) (c : B), L[i]? = some n ∧ m1[i]? = some c ∧ b = renB (back L m.length) c ∧ n < m.length) ∨ (∃ (i : Nat) (c : B), ¬ i < L.length ∧ n = m.length + (i - L.length) ∧ m1[i]? = some c ∧ b = renB (back L m.length) c) := by
    intro n b hb
    unfold Ab.merge at hb
    by_cases hn : n < m.length
    · rw [List.getElem?_append_left (by rw [setAll_length]; exact hn)] at hb
      by_cases hL : n ∈ L
      · obtain ⟨i, hi⟩ := List.getElem?_of_mem hL
        have hil := (List.getElem?_eq_some_iff.1 hi).1
        have hc' : m1[i]? = some m1[i] := List.getElem?_eq_getElem (by omega)
        rw [setAll_in L _ m i n (renB (back L m.length) m1[i]) c1 hi (by simp [hil, hc']) hn] at hb
        cases hb
        exact .inr (.inl ⟨i, _, hi, hc', rfl, hn⟩)
      · rw [setAll_out L _ m n hL] at hb
        exact .inl ⟨hn, hL, hb⟩
    · rw [List.getElem?_append_right (by rw [setAll_length]; omega), setAll_length] at hb
      simp only [List.getElem?_map, List.getElem?_drop, Option.map_eq_some_iff] at hb
      obtain ⟨c, h1, h2⟩ := hb
      exact .inr (.inr ⟨L.length + (n - m.length), c, by omega, by omega, h1, h2.symm⟩)
  have hlive : ∀ n, live (Ab.merge L m m1) n → (n < m.length ∧ n ∉ L ∧ live m n) ∨ (∃ i : Nat, L[i]? = some n ∧ live m1 i ∧ n < m.length ∧ live m n) ∨ (∃ i : Nat, ¬ i < L.length ∧ n = m.length + (i - L.length) ∧ live m1 i) := by
    rintro n ⟨b, hb, hl⟩
    rcases hget n b hb with ⟨h1, h2, h3⟩ | ⟨i, c, h1, h2, rfl, h3⟩ | ⟨i, c, h1, h2, h3, rfl⟩
    · exact .inl ⟨h1, h2, b, h3, hl⟩
    · rw [renB_live] at hl
      have hli : live m1 i := ⟨c, h2, hl⟩
      have := hs.dead i (by rw [hLv]; exact (List.getElem?_eq_some_iff.1 h1).1) hli
      obtain ⟨n', k1, k2⟩ := live_view this
      rw [h1] at k1; cases k1
      exact .inr (.inl ⟨i, h1, hli, h3, k2⟩)
    · rw [renB_live] at hl
      exact .inr (.inr ⟨i, h1, h2, c, h3, hl⟩)
  have hown : ∀ n, n ∉ L → live m n → ¬ Own (fun i => ρ (L.getD i 0)) (Ab.view L m) (ρ n).1 := by
    intro n h1 h2 h3
    obtain ⟨k, k1, k2, k3⟩ := own_view.1 h3
    exact h1 (hr.inj k n k2 h2 k3 ▸ k1)
  have hρnew : ∀ i, ¬ i < L.length → ρ' (m.length + (i - L.length)) = ρ1 i := by
    intro i hi
    show (if m.length + (i - L.length) < m.length then _ else _) = _
    rw [if_neg (by omega)]
    congr 1; omega
  have hkeep : Keeps m.length ρ I w (Ab.merge L m m1).length ρ' I1 w1 := ⟨by rw [merge_length]; omega, hρlt, hs.iSub, hs.wle.imm, hs.wle.cells⟩
  refine ⟨ρ', ⟨?_, ?_, ?_, hr1.ilt⟩, ⟨hkeep.len, hρlt, ?_, hs.iSub, ?_, ?_, hs.wle, ?_⟩, hval⟩
  · intro n b hb
    rcases hget n b hb with ⟨h1, h2, h3⟩ | ⟨i, c, h1, h2, rfl, h3⟩ | ⟨i, c, h1, rfl, h3, rfl⟩
    · rw [hρlt n h1]
      by_cases hl : b.live = true
      · exact (hr.blk n b h3).keep hkeep (hs.frame _ ((hr.blk n b h3).lt hl) (hown n h2 ⟨b, h3, hl⟩))
      · cases b <;> first | trivial | exact absurd rfl hl
    · rw [hρlt n h3, ← hρ1 i n h1]
      exact holds_sub (D := fun _ => true) hτ (List.all_eq_true.1 hall c (List.mem_of_getElem? h2)) (hr1.blk i c h2)
    · rw [hρnew i h1]
      exact holds_sub (D := fun _ => true) hτ (List.all_eq_true.1 hall c (List.mem_of_getElem? h3)) (hr1.blk i c h3)
  · intro n hn
    rcases hlive n hn with ⟨h1, h2, h3⟩ | ⟨i, h1, h2, h3, h4⟩ | ⟨i, h1, rfl, h3⟩
    · rw [hρlt n h1]
      intro hI
      rcases hs.iNew _ hI with h | h | h
      · exact hr.notI n h3 h
      · have := hr.live_lt h3; omega
      · exact hown n h2 h3 h
    · rw [hρlt n h3, ← hρ1 i n h1]
      exact hr1.notI i h2
    · rw [hρnew i h1]
      exact hr1.notI i h3
  · intro n n' hn hn' e
    -- what is not in the view has its own blocks
    have apart : ∀ k i, k ∉ L → live m k → live m1 i → (ρ k).1 ≠ (ρ1 i).1 := by
      intro k i h1 h2 h3 h4
      rcases hs.own _ ⟨i, h3, h4.symm⟩ with h | h
      · have := hr.live_lt h2; omega
      · exact hown k h1 h2 h
    rcases hlive n hn with ⟨h1, h2, h3⟩ | ⟨i, h1, h2, h3, h4⟩ | ⟨i, h1, h2, h3⟩ <;> rcases hlive n' hn' with ⟨g1, g2, g3⟩ | ⟨j, g1, g2, g3, g4⟩ | ⟨j, g1, g2, g3⟩
    · rw [hρlt n h1, hρlt n' g1] at e; exact hr.inj n n' h3 g3 e
    · rw [hρlt n h1, hρlt n' g3, ← hρ1 j n' g1] at e; exact absurd e (apart n j h2 h3 g2)
    · rw [hρlt n h1, g2, hρnew j g1] at e; exact absurd e (apart n j h2 h3 g3)
    · rw [hρlt n h3, hρlt n' g1, ← hρ1 i n h1] at e; exact absurd e.symm (apart n' i g2 g3 h2)
    · rw [hρlt n h3, hρlt n' g3, ← hρ1 i n h1, ← hρ1 j n' g1] at e
      have := hr1.inj i j h2 g2 e
      subst this
      rw [h1] at g1; cases g1; rfl
    · rw [hρlt n h3, g2, hρnew j g1, ← hρ1 i n h1] at e
      have := hr1.inj i j h2 g3 e
      subst this
      exact absurd (List.getElem?_eq_some_iff.1 h1).1 g1
    · rw [hρlt n' g1, h2, hρnew i h1] at e; exact absurd e.symm (apart n' i g2 g3 h3)
    · rw [hρlt n' g3, h2, hρnew i h1, ← hρ1 j n' g1] at e
      have := hr1.inj i j h3 g2 e
      subst this
      exact absurd (List.getElem?_eq_some_iff.1 g1).1 h1
    · rw [h2, g2, hρnew i h1, hρnew j g1] at e
      have := hr1.inj i j h3 g3 e
      subst this
      rw [h2, g2]
  · intro n hn h
    rcases hlive n h with ⟨_, _, h3⟩ | ⟨_, _, _, _, h4⟩ | ⟨i, h1, h2, _⟩
    · exact h3
    · exact h4
    · omega
  · intro b hb
    rcases hs.iNew b hb with h | h | h
    · exact .inl h
    · exact .inr (.inl h)
    · obtain ⟨n, _, k2, k3⟩ := own_view.1 h
      exact .inr (.inr ⟨n, k2, k3⟩)
  · rintro b ⟨n, hn, e⟩
    rcases hlive n hn with ⟨h1, _, h3⟩ | ⟨i, _, _, h3, h4⟩ | ⟨i, h1, h2, h3⟩
    · rw [hρlt n h1] at e; exact .inr ⟨n, h3, e⟩
    · rw [hρlt n h3] at e; exact .inr ⟨n, h4, e⟩
    · rw [h2, hρnew i h1] at e
      rcases hs.own b ⟨i, h3, e⟩ with h | h
      · exact .inl h
      · obtain ⟨k, _, k2, k3⟩ := own_view.1 h
        exact .inr ⟨k, k2, k3⟩
  · intro b hb ho
    exact hs.frame b hb (fun h => ho (by obtain ⟨k, _, k2, k3⟩ := own_view.1 h; exact ⟨k, k2, k3⟩))

end
end Go.Proofs.Ytnhejkfbnjopjaa.Ab
