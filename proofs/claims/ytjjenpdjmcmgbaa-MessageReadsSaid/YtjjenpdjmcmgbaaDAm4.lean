/- A region whose order is open: if what touches the same memory is in order, the text's order serves every order. No condition. A region whose order is open: every order. No condition. A region whose order is open: the text's order serves every order. No condition. A region whose order is open, a new variable in it: where it is laid does not matter, for nothing sees it before it is written. No condition. A region whose order is open, and in which a call panics. No condition. A region whose order is open, where calls may answer this or that: whatever order is picked. No condition. -/
import Derived.Test.YtjjenpdjmcmgbaaDAm3
import Derived.Still
namespace Go.Proofs.Ytjjenpdjmcmgbaa.Ab
open Go
set_option linter.unusedSimpArgs false
set_option linter.unusedVariables false
/-- What an operation touches: the blocks that it reads, those that it writes, whether it makes new ones. -/
structure Info where
  rd : List Nat
  wr : List Nat
  al : Bool
/-- The map's block, whose length is in memory; a slice's length is its own. -/
def mnm : V → List Nat
  | .mp n => [n]
  | _ => []
/-- Does `frz` leave it as it is? -/
def sty1 : V → Bool
  | .sl _ _ _ _ => false
  | _ => true
def sty : V → Bool
  | .sl _ _ _ _ => false
  | .agg l => l.all sty1
  | _ => true
def stys : List V → Bool := fun l => nfs l || l.all sty
/-- The rows that `frz` takes. -/
def slnm1 : V → List Nat
  | .sl _ n _ _ => [n]
  | _ => []
def slnm : V → List Nat
  | .agg l => l.flatMap slnm1
  | v => slnm1 v
def infoD (e : Operand → V) (m : Mem) (op : Op) (v : V) : Option Info :=
  match calleeV e op with
  | some (_, vs) => some ⟨[], rootsV m vs, !((rootsV m vs).isEmpty && nf v)⟩
  | none => match op with
    | .load _ a => some ⟨nms (e a), [], false⟩
    | .store _ a _ => some ⟨[], nms (e a), false⟩
    | .convert _ _ x => some ⟨bnm (e x), [], false⟩
    | .alloc _ => some ⟨[], [], true⟩
    | .box _ _ => some ⟨[], [], true⟩
    | .buildSlice _ _ ps => bif stys (ps.toList.map fun p => e p.2) then some ⟨[], [], true⟩ else some ⟨[], (ps.toList.map fun p => e p.2).flatMap slnm, true⟩
    | .call { callee := .builtin .append, args, .. } => match args.toList with
      | [s, x] => some ⟨nms (e x), nms (e s), true⟩
      | _ => none
    | .call { callee := .builtin .len, args, .. } => match args.toList with
      | [x] => some ⟨mnm (e x), [], false⟩
      | _ => none
    | .call { callee := .builtin .delete, args, .. } => match args.toList with
      | [x, _] => some ⟨[], nms (e x), false⟩
      | _ => none
    | .call { callee := .builtin .cap, .. } => some ⟨[], [], false⟩
    | .call { callee := .builtin .min, .. } => some ⟨[], [], false⟩
    | .call { callee := .builtin .max, .. } => some ⟨[], [], false⟩
    | .lookup _ x _ _ => some ⟨mnm (e x), [], false⟩
    | .mapUpdate _ x _ _ => some ⟨[], nms (e x), false⟩
    | .insert _ x _ _ => some ⟨[], nms (e x), false⟩
    | .makeMap _ none => some ⟨[], [], true⟩
    | .makeSlice _ _ _ => some ⟨[], [], true⟩
    | .call _ => none
    | .move _ | .assign _ | .pick _ _ _ | .build _ _ | .nilCheck _ | .binOp _ _ _ _ _ | .unOp _ _ _ | .makeFunc _ _ _ | .makeInterface _ _ | .slice _ _ _ _ _
    | .fieldAddr _ _ _ | .field _ _ _ | .indexAddr _ _ _ | .index _ _ _ | .extract _ _ => some ⟨[], [], false⟩
    | _ => none
/-- One operation: its value and memory behind it. -/
def StepV (P : Program) (o : Oper) (env : Env) (m : Mem) (v : V) (m' : Mem) : Prop :=
  match calleeV (evO env) o.op with
  | some (f, vs) => okCall (rootsV m vs) m vs = true ∧ enterable P f = true ∧
      (((rootsV m vs).isEmpty = true ∧ nf v = true ∧ m' = m ∧ Snd P f (rens (idx (rootsV m vs)) vs) (view (rootsV m vs) m) fun r => ∃ m1, r = .ret v m1) ∨
       ∃ v1 m1, Snd P f (rens (idx (rootsV m vs)) vs) (view (rootsV m vs) m) (fun r => r = .ret v1 m1) ∧ okBack (rootsV m vs) v1 m1 = true ∧ ((rootsV m vs).isEmpty && nf v) = false ∧
         v = ren (back (rootsV m vs) m.length) v1 ∧ m' = merge (rootsV m vs) m m1)
  | none => match execD P (evO env) m o.op with
    | some (.val u m1) => v = u ∧ m' = m1
    | some (.skip m1) => v = .tup [] ∧ m' = m1
    | _ => False
def disj (a b : List Nat) : Bool := a.all fun n => !b.contains n
def indep (i : Info) (len : Nat) (j : Info) : Bool :=
  disj i.wr (j.rd ++ j.wr) && (disj i.rd j.wr && (!(i.al && j.al) && (!i.al || (j.rd ++ j.wr).all fun n => Nat.blt n len)))
/-- What an operation comes behind. -/
def aheadO (o : Oper) : List Nat := (o.after.toList.filter fun e => Region.binds .any e).map (·.on)
/-- All that is ahead, through whatever is between. -/
def upsT (all : Array Oper) : Nat → List Nat → List Nat → List Nat
  | 0, _, seen => seen
  | _ + 1, [], seen => seen
  | n + 1, i :: todo, seen => bif seen.contains i then upsT all n todo seen else upsT all n ((match all[i]? with
    | some o => aheadO o
    | none => []) ++ todo) (i :: seen)
/-- Does an operation come behind another one in every order, through some between? -/
def waits (all : Array Oper) (o : Oper) (i : Nat) : Bool := (aheadO o).contains i || (upsT all 600 (aheadO o) []).contains i
/-- A call that turns nothing, and looks at some blocks alone. -/
def QuietC (P : Program) (o : Oper) (env : Env) (m : Mem) (v : V) (m' : Mem) (inf : Info) : Prop :=
  ∃ (f : FuncId) (vs : List V) (rd : List Nat), calleeV (evO env) o.op = some (f, vs) ∧ enterable P f = true ∧ m' = m ∧ inf = ⟨rd, [], false⟩ ∧ ∀ m2 : Mem, (∀ n ∈ rd, m2[n]? = m[n]?) → Snd P f vs m2 fun r => r = .ret v m2
/-- A literal of values without names, told as a row that is not written again. -/
def LitC (P : Program) (o : Oper) (env : Env) (m : Mem) (v : V) (m' : Mem) (inf : Info) : Prop :=
  ∃ (t : TypeId) (n : Nat) (ps : Array (Nat × Operand)) (e sz : Nat) (es : List (List V)), o.op = .buildSlice t n ps ∧ nfs (ps.toList.map fun p => evO env p.2) = true ∧
    bsliceV P t n (ps.toList.map fun p => (p.1, evO env p.2)) [] = some (.sl sz 0 0 n, [.row e sz es]) ∧ es.length = n ∧ nfss es = true ∧ v = .isl sz es ∧ m' = m ∧ inf = ⟨[], [], false⟩
/-- A step, with where it looks and what it turns. -/
def StepI (P : Program) (o : Oper) (env : Env) (m : Mem) (v : V) (m' : Mem) (inf : Info) : Prop :=
  (StepV P o env m v m' ∧ infoD (evO env) m o.op v = some inf) ∨ QuietC P o env m v m' inf ∨ LitC P o env m v m' inf
/-- What is asked of a wanted operation beside its step. -/
def fits (all : Array Oper) (o : Oper) (env : Env) (m : Mem) (v : V) (acc : List (Nat × Info × Nat)) (inf : Info) : Prop :=
  panicV (evO env) o.op = none ∧ True ∧ (inf.rd ++ inf.wr).all (fun n => Nat.blt n m.length) = true ∧ acc.all (fun x => waits all o x.1 || indep x.2.1 x.2.2 inf) = true
def runDrawn (P : Program) (all : Array Oper) (K : Env → Mem → Prop) : Nat → List (Nat × Info × Nat) → List Oper → Env → Mem → Prop
  | _, _, [], env, m => K env m
  | k, acc, o :: r, env, m =>
    match wantD all env o with
    | none => False
    | some false => runDrawn P all K (k + 1) acc r (put env o.dst (.tup [])) m
    | some true => ∃ v m' inf, StepI P o env m v m' inf ∧ fits all o env m v acc inf ∧ runDrawn P all K (k + 1) ((k, inf, m.length) :: acc) r (put env o.dst v) m'
section
variable {P : Program} {m : Mem}
/-- Where a step looks and what it leaves. -/
structure Loc (S : Mem → V → Mem → Prop) (rd wr : List Nat) (al : Bool) (m : Mem) (v : V) (m' : Mem) : Prop where
  le : m.length ≤ m'.length
  noal : al = false → m'.length = m.length
  out : ∀ n, n < m.length → n ∉ wr → m'[n]? = m[n]?
  move : ∀ m2 : Mem, (∀ n, n ∈ rd ∨ n ∈ wr → m2[n]? = m[n]?) → (al = true → m2.length = m.length) →
    ∃ m2', S m2 v m2' ∧ m2'.length = m2.length + (m'.length - m.length) ∧ (∀ n ∈ wr, n < m.length → m2'[n]? = m'[n]?) ∧ (∀ n, n < m2.length → n ∉ wr → m2'[n]? = m2[n]?) ∧
      ∀ j, m2'[m2.length + j]? = m'[m.length + j]?
theorem Loc.pure {S : Mem → V → Mem → Prop} {v : V} {rd : List Nat} (h : ∀ m2 : Mem, (∀ n, n ∈ rd → m2[n]? = m[n]?) → S m2 v m2) : Loc S rd [] false m v m :=
  ⟨Nat.le_refl _, fun _ => rfl, fun _ _ _ => rfl, fun m2 h1 _ => ⟨m2, h m2 (fun n hn => h1 n (.inl hn)), by omega, by simp, fun _ _ _ => rfl, fun j => by
    rw [List.getElem?_eq_none (by omega), List.getElem?_eq_none (by omega)]⟩⟩
theorem Loc.commute {Si Sj : Mem → V → Mem → Prop} {ri wi rj wj : List Nat} {ai aj : Bool} {mi mij : Mem} {vi vj : V} (hi : Loc Si ri wi ai m vi mi) (hj : Loc Sj rj wj aj mi vj mij)
    (hbi : (ri ++ wi).all (fun n => Nat.blt n m.length) = true) (hbj : (rj ++ wj).all (fun n => Nat.blt n mi.length) = true) (hind : indep ⟨ri, wi, ai⟩ m.length ⟨rj, wj, aj⟩ = true) :
    ∃ mj, Sj m vj mj ∧ Si mj vi mij ∧ (∀ n ∈ rj ++ wj, n < m.length) := by
  unfold indep disj at hind
  simp only [Bool.and_eq_true, List.all_eq_true, Bool.not_eq_true', List.contains_eq_mem, decide_eq_false_iff_not, List.mem_append, not_or, Bool.or_eq_true, Nat.blt_eq, Bool.and_eq_false_iff] at hind hbi hbj
  obtain ⟨d1, d2, d3, d4⟩ := hind
  have hjm : ∀ n, n ∈ rj ∨ n ∈ wj → n < m.length := by
    intro n hn
    have h1 := hbj n hn
    cases ai with
    | false => rw [hi.noal rfl] at h1; exact h1
    | true =>
      rcases d4 with h | h
      · cases h
      · exact h n hn
  obtain ⟨mj, s1, s2, s3, s4, s5⟩ := hj.move m (fun n hn => (hi.out n (hjm n hn) (fun h => by
    have := d1 n h
    rcases hn with hn | hn
    · exact this.1 hn
    · exact this.2 hn)).symm) (fun ha => by
    have : ai = false := by
      rcases d3 with h | h
      · exact h
      · rw [ha] at h; cases h
    exact (hi.noal this).symm)
  obtain ⟨mji, t1, t2, t3, t4, t5⟩ := hi.move mj (fun n hn => by
    have hlt : n < m.length := hbi n hn
    refine s4 n hlt (fun h => ?_)
    rcases hn with hn | hn
    · exact d2 n hn h
    · exact (d1 n hn).2 h) (fun ha => by
    have : aj = false := by
      rcases d3 with h | h
      · rw [ha] at h; cases h
      · exact h
    rw [s2, hj.noal this]; omega)
  refine ⟨mj, s1, ?_, fun n hn => hjm n (by simpa using hn)⟩
  have : mji = mij := by
    apply List.ext_getElem?
    intro n
    have l1 := hi.le
    have l2 := hj.le
    by_cases hn : n < m.length
    · by_cases hw : n ∈ wi
      · rw [t3 n hw hn, hj.out n (by omega) (d1 n hw).2]
      · rw [t4 n (by omega) hw]
        by_cases hw2 : n ∈ wj
        · exact s3 n hw2 (by omega)
        · rw [s4 n hn hw2, hj.out n (by omega) hw2, hi.out n hn hw]
    · cases ai with
      | true =>
        have haj : aj = false := by
          rcases d3 with h | h
          · cases h
          · exact h
        have e1 : mj.length = m.length := by rw [s2, hj.noal haj]; omega
        have e2 := hj.noal haj
        have := t5 (n - m.length)
        rw [e1, show m.length + (n - m.length) = n by omega] at this
        rw [this]
        by_cases hn2 : n < mi.length
        · exact (hj.out n hn2 (fun h => hn (hjm n (.inr h)))).symm
        · rw [List.getElem?_eq_none (by omega), List.getElem?_eq_none (by omega)]
      | false =>
        have e1 := hi.noal rfl
        by_cases hn2 : n < mj.length
        · rw [t4 n hn2 (fun h => hn (hbi n (.inr h)))]
          have := s5 (n - m.length)
          rw [e1, show m.length + (n - m.length) = n by omega] at this
          exact this
        · rw [List.getElem?_eq_none (by omega), List.getElem?_eq_none (by omega)]
  rw [← this]
  exact t1
theorem cellsAt_loc {p : V} {m2 : Mem} (h : ∀ n, n ∈ nms p → m2[n]? = m[n]?) : cellsAt m2 p = cellsAt m p := by
  cases p <;> simp only [cellsAt]
  · rw [h _ (by simp [nms])]
  · rw [h _ (by simp [nms])]
theorem loadV_loc {t : TypeId} {p : V} {m2 : Mem} (h : ∀ n, n ∈ nms p → m2[n]? = m[n]?) : loadV P m2 t p = loadV P m t p := by
  unfold loadV; rw [cellsAt_loc h]
theorem storeV_loc {t : TypeId} {p v : V} {m' : Mem} (h : storeV P t m p v = some m') : (∃ n b, nms p = [n] ∧ n < m.length ∧ m' = m.set n b ∧ ∀ m2 : Mem, m2[n]? = m[n]? → storeV P t m2 p v = some (m2.set n b)) ∨
    (nms p = [] ∧ m' = m ∧ ∀ m2 : Mem, storeV P t m2 p v = some m2) := by
  unfold storeV at h
  split at h
  · cases h
  · rename_i inf hi
    cases hc : Nat.beq (cellsOfV v).length inf.size && cellsB v with
    | false => rw [hc] at h; cases h
    | true =>
      rw [hc] at h
      simp only [cond_true] at h
      split at h
      · rename_i n off
        split at h
        · rename_i ty l hm
          split at h
          · rename_i hb
            cases h
            refine .inl ⟨n, _, rfl, (List.getElem?_eq_some_iff.1 hm).1, rfl, fun m2 h2 => ?_⟩
            unfold storeV
            rw [hi]
            simp only [hc, cond_true, h2, hm, hb, if_true]
          · cases h
        · cases h
      · rename_i sz n i off
        split at h
        · rename_i ty sz' es hm
          split at h
          · rename_i hs
            split at h
            · rename_i e he
              split at h
              · rename_i hb
                cases h
                refine .inl ⟨n, _, rfl, (List.getElem?_eq_some_iff.1 hm).1, rfl, fun m2 h2 => ?_⟩
                unfold storeV
                rw [hi]
                simp only [hc, cond_true, h2, hm, hs, he, hb, if_true]
              · cases h
            · cases h
          · cases h
        · cases h
      · rename_i l
        split at h
        · rename_i hb
          cases h
          refine .inr ⟨rfl, rfl, fun m2 => ?_⟩
          unfold storeV
          rw [hi]
          simp only [hc, cond_true, hb, if_true]
        · cases h
      · cases h
theorem Loc.store {S : Mem → V → Mem → Prop} {v : V} {n : Nat} {b : B} (hn : n < m.length) (h : ∀ m2 : Mem, m2[n]? = m[n]? → S m2 v (m2.set n b)) : Loc S [] [n] false m v (m.set n b) where
  le := by simp
  noal _ := by simp
  out k _ hk := by rw [List.getElem?_set_ne (fun e => hk (by simp [e]))]
  move m2 h1 _ := by
    have hm2 : n < m2.length := by
      have := h1 n (.inr (by simp))
      rw [List.getElem?_eq_getElem hn] at this
      exact (List.getElem?_eq_some_iff.1 this).1
    refine ⟨m2.set n b, h m2 (h1 n (.inr (by simp))), by simp, ?_, ?_, ?_⟩
    · intro k hk _
      simp at hk; subst hk
      rw [List.getElem?_set_self hm2, List.getElem?_set_self hn]
    · intro k _ hk
      rw [List.getElem?_set_ne (fun e => hk (by simp [e]))]
    · intro j
      rw [List.getElem?_eq_none (by simp), List.getElem?_eq_none (by simp)]
theorem Loc.new {S : Mem → V → Mem → Prop} {v : V} {b : B} (h : ∀ m2 : Mem, m2.length = m.length → S m2 v (m2 ++ [b])) : Loc S [] [] true m v (m ++ [b]) where
  le := by simp
  noal h := by cases h
  out k hk _ := by rw [List.getElem?_append_left hk]
  move m2 _ h2 := by
    have e := h2 rfl
    refine ⟨m2 ++ [b], h m2 e, by simp, by simp, fun k hk _ => by rw [List.getElem?_append_left hk], fun j => ?_⟩
    rw [List.getElem?_append_right (by omega), List.getElem?_append_right (by omega)]
    congr 1; omega
theorem contV_loc {sz : Nat} {x : V} {m2 : Mem} (h : ∀ n, n ∈ nms x → m2[n]? = m[n]?) : contV m2 sz x = contV m sz x := by
  cases x <;> simp only [contV]
  rw [h _ (by simp [nms])]
theorem frzL_sty : ∀ (l : List V) (m : Mem), l.all sty1 = true → frzL m l = some (l, m)
  | [], _, _ => rfl
  | v :: r, m, h => by
    simp only [List.all_cons, Bool.and_eq_true] at h
    have hv : frz m v = some (v, m) := by cases v <;> first | rfl | (simp [sty1] at h)
    simp only [frzL, hv, frzL_sty r m h.2]
theorem frzP_sty : ∀ (ps : List (Nat × V)) (m : Mem), (ps.map (·.2)).all sty = true → frzP m ps = some (ps, m)
  | [], _, _ => rfl
  | (i, v) :: r, m, h => by
    simp only [List.map_cons, List.all_cons, Bool.and_eq_true] at h
    have hv : frzV m v = some (v, m) := by
      unfold frzV
      split
      · rw [frzL_sty _ m (by simpa [sty] using h.1)]
      · cases v <;> first | rfl | (simp [sty] at h)
    simp only [frzP, hv, frzP_sty r m h.2]
theorem nf_sty1 : ∀ v, nf v = true → sty1 v = true := by
  intro v h
  cases v <;> first | rfl | (simp [nf] at h)
theorem nfs_sty1 : ∀ l, nfs l = true → l.all sty1 = true
  | [], _ => rfl
  | v :: r, h => by
    simp only [nfs, Bool.and_eq_true] at h
    simp only [List.all_cons, Bool.and_eq_true]
    exact ⟨nf_sty1 v h.1, nfs_sty1 r h.2⟩
theorem nfs_sty : ∀ l, nfs l = true → l.all sty = true
  | [], _ => rfl
  | v :: r, h => by
    simp only [nfs, Bool.and_eq_true] at h
    simp only [List.all_cons, Bool.and_eq_true]
    refine ⟨?_, nfs_sty r h.2⟩
    cases v <;> first | rfl | (simp [nf] at h; done) | exact nfs_sty1 _ (by simpa [nf] using h.1)
theorem frzP_nf (ps : List (Nat × V)) (m : Mem) (h : stys (ps.map (·.2)) = true) : frzP m ps = some (ps, m) := by
  unfold stys at h
  rw [Bool.or_eq_true] at h
  rcases h with h | h
  · exact frzP_sty ps m (nfs_sty _ h)
  · exact frzP_sty ps m h
/-- What takes rows out of memory, and where. -/
structure Loc0 {β : Type} (S : Mem → Option (β × Mem)) (wr : List Nat) (m : Mem) (b : β) (m1 : Mem) : Prop where
  len : m1.length = m.length
  out : ∀ k, k ∉ wr → m1[k]? = m[k]?
  move : ∀ m2 : Mem, (∀ n ∈ wr, m2[n]? = m[n]?) → ∃ m21, S m2 = some (b, m21) ∧ m21.length = m2.length ∧ (∀ n ∈ wr, m21[n]? = m1[n]?) ∧ ∀ k, k ∉ wr → m21[k]? = m2[k]?
theorem Loc0.stay {β : Type} {S : Mem → Option (β × Mem)} {b : β} (h : ∀ m2, S m2 = some (b, m2)) : Loc0 S [] m b m :=
  ⟨rfl, fun _ _ => rfl, fun m2 _ => ⟨m2, h m2, rfl, by simp, fun _ _ => rfl⟩⟩
theorem Loc0.andThen {β γ δ : Type} {S : Mem → Option (β × Mem)} {T : Mem → Option (γ × Mem)} {U : Mem → Option (δ × Mem)} {w1 w2 : List Nat} {b : β} {c : γ} {d : δ} {m1 m2 : Mem}
    (h1 : Loc0 S w1 m b m1) (h2 : Loc0 T w2 m1 c m2) (hU : ∀ a a1 a2, S a = some (b, a1) → T a1 = some (c, a2) → U a = some (d, a2)) : Loc0 U (w1 ++ w2) m d m2 where
  len := h2.len.trans h1.len
  out k hk := by
    simp only [List.mem_append, not_or] at hk
    rw [h2.out k hk.2, h1.out k hk.1]
  move a ha := by
    simp only [List.mem_append] at ha
    obtain ⟨a1, p1, p2, p3, p4⟩ := h1.move a fun n hn => ha n (.inl hn)
    have key : ∀ n, n ∈ w2 → a1[n]? = m1[n]? := fun n hn => by
      by_cases h : n ∈ w1
      · exact p3 n h
      · rw [p4 n h, h1.out n h, ha n (.inr hn)]
    obtain ⟨a2, q1, q2, q3, q4⟩ := h2.move a1 key
    refine ⟨a2, hU a a1 a2 p1 q1, q2.trans p2, fun n hn => ?_, fun k hk => ?_⟩
    · by_cases h : n ∈ w2
      · exact q3 n h
      · have hn1 : n ∈ w1 := by
          rcases List.mem_append.1 hn with h' | h'
          · exact h'
          · exact absurd h' h
        rw [q4 n h, p3 n hn1, h2.out n h]
    · simp only [List.mem_append, not_or] at hk
      rw [q4 k hk.2, p4 k hk.1]
theorem frz_loc0 {v v' : V} {m1 : Mem} (h : frz m v = some (v', m1)) : Loc0 (fun a => frz a v) (slnm1 v) m v' m1 := by
  cases v
  case sl sz n off len =>
    simp only [frz] at h
    cases hm : m[n]? with
    | none => simp [hm] at h
    | some b =>
      cases b with
      | row ty sz' es =>
        simp only [hm] at h
        cases hc : Nat.beq sz sz' && Nat.ble (off + len) es.length with
        | false => rw [hc] at h; cases h
        | true =>
          rw [hc] at h
          simp only [cond_true, Option.some.injEq, Prod.mk.injEq] at h
          obtain ⟨rfl, rfl⟩ := h
          have hn := (List.getElem?_eq_some_iff.1 hm).1
          refine ⟨by simp, fun k hk => ?_, fun a ha => ?_⟩
          · rw [List.getElem?_set_ne (fun e => hk (by simp [slnm1, e]))]
          · have e := ha n (by simp [slnm1])
            have hna : n < a.length := by
              rw [hm] at e
              exact (List.getElem?_eq_some_iff.1 e).1
            refine ⟨a.set n .dead, by simp only [frz, e, hm, hc, cond_true], by simp, fun k hk => ?_, fun k hk => ?_⟩
            · simp only [slnm1, List.mem_singleton] at hk
              subst hk
              rw [List.getElem?_set_self hna, List.getElem?_set_self hn]
            · rw [List.getElem?_set_ne (fun e => hk (by simp [slnm1, e]))]
      | _ => simp [hm] at h
  all_goals
    simp only [frz, Option.some.injEq, Prod.mk.injEq] at h
    obtain ⟨rfl, rfl⟩ := h
    exact Loc0.stay fun _ => rfl
theorem frzL_loc0 : ∀ {l l' : List V} {m m1 : Mem}, frzL m l = some (l', m1) → Loc0 (fun a => frzL a l) (l.flatMap slnm1) m l' m1
  | [], l', m, m1, h => by
    cases h
    exact Loc0.stay fun _ => rfl
  | v :: r, l', m, m1, h => by
    simp only [frzL] at h
    split at h
    · rename_i v' m2 h1
      split at h
      · rename_i r' m3 h2
        cases h
        rw [List.flatMap_cons]
        exact (frz_loc0 h1).andThen (frzL_loc0 h2) fun a a1 a2 e1 e2 => by simp only [frzL, e1, e2]
      · cases h
    · cases h
theorem frzV_loc0 {v v' : V} {m1 : Mem} (h : frzV m v = some (v', m1)) : Loc0 (fun a => frzV a v) (slnm v) m v' m1 := by
  cases v
  case agg l =>
    simp only [frzV] at h
    split at h
    · rename_i l' m' h1
      cases h
      have h2 := frzL_loc0 h1
      refine ⟨h2.len, h2.out, fun a ha => ?_⟩
      obtain ⟨a1, p1, p2⟩ := h2.move a ha
      exact ⟨a1, by simp only [frzV, show frzL a l = some (l', a1) from p1], p2⟩
    · cases h
  all_goals
    simp only [frzV] at h
    have h2 := frz_loc0 h
    exact ⟨h2.len, h2.out, h2.move⟩
theorem frzP_loc0 : ∀ {ps ps' : List (Nat × V)} {m m1 : Mem}, frzP m ps = some (ps', m1) → Loc0 (fun a => frzP a ps) ((ps.map (·.2)).flatMap slnm) m ps' m1
  | [], l', m, m1, h => by
    cases h
    exact Loc0.stay fun _ => rfl
  | (i, v) :: r, l', m, m1, h => by
    simp only [frzP] at h
    split at h
    · rename_i v' m2 h1
      split at h
      · rename_i r' m3 h2
        cases h
        rw [List.map_cons, List.flatMap_cons]
        exact (frzV_loc0 h1).andThen (frzP_loc0 h2) fun a a1 a2 e1 e2 => by simp only [frzP, e1, e2]
      · cases h
    · cases h
theorem frzQ_nf {P : Program} {e : TypeId} (ps : List (Nat × V)) (m : Mem) (h : stys (ps.map (·.2)) = true) : frzQ P e m ps = some (ps, m) := by
  unfold frzQ
  rw [frzP_nf ps m h]
  cases keepNames P e <;> rfl
theorem frzQ_loc0 {P : Program} {e : TypeId} {ps ps' : List (Nat × V)} {m m1 : Mem} (h : frzQ P e m ps = some (ps', m1)) : Loc0 (fun a => frzQ P e a ps) ((ps.map (·.2)).flatMap slnm) m ps' m1 := by
  unfold frzQ at h
  split at h
  · rename_i q hq
    obtain ⟨q1, q2⟩ := q
    have hl := frzP_loc0 hq
    cases hk : keepNames P e with
    | true =>
      rw [hk] at h
      cases h
      refine ⟨rfl, fun _ _ => rfl, fun a ha => ?_⟩
      obtain ⟨a1, p1, p2⟩ := hl.move a ha
      exact ⟨a, by simp only [frzQ, show frzP a ps = some (q1, a1) from p1, hk, cond_true], rfl, ha, fun _ _ => rfl⟩
    | false =>
      rw [hk] at h
      cases h
      refine ⟨hl.len, hl.out, fun a ha => ?_⟩
      obtain ⟨a1, p1, p2⟩ := hl.move a ha
      exact ⟨a1, by simp only [frzQ, show frzP a ps = some (ps', a1) from p1, hk, cond_false], p2⟩
  · cases h
theorem bsliceV_loc {t : TypeId} {len : Nat} {ps : List (Nat × V)} {v : V} {m' : Mem} (h : bsliceV P t len ps m = some (v, m')) :
    Loc (fun m v m' => bsliceV P t len ps m = some (v, m')) [] ((ps.map (·.2)).flatMap slnm) true m v m' := by
  unfold bsliceV at h
  split at h
  · rename_i e hu
    split at h
    · rename_i z sz by_ hz
      cases hb : Nat.ble (len * sz) 16777216 with
      | false => rw [hb] at h; cases h
      | true =>
        rw [hb] at h
        simp only [cond_true] at h
        split at h
        · rename_i ps' m1 hf
          split at h
          · rename_i es hes
            cases h
            have hl := frzQ_loc0 hf
            refine ⟨by simp [hl.len], (fun h => by cases h), fun k hk hkn => ?_, fun m2 h1 h2 => ?_⟩
            · rw [List.getElem?_append_left (by rw [hl.len]; exact hk), hl.out k hkn]
            · have e2 := h2 rfl
              obtain ⟨a1, p1, p2, p3, p4⟩ := hl.move m2 fun n hn => h1 n (.inr hn)
              refine ⟨a1 ++ [.row e sz es], ?_, by simp [hl.len, p2], fun k hk hkm => ?_, fun k hk hkn => ?_, fun j => ?_⟩
              · have e3 : a1.length = m1.length := by rw [p2, e2, hl.len]
                simp only [bsliceV, hu, hz, hb, cond_true, p1, hes, e3]
              · rw [List.getElem?_append_left (by omega), List.getElem?_append_left (by rw [hl.len]; exact hkm), p3 k hk]
              · rw [List.getElem?_append_left (by omega), p4 k hkn]
              · rw [List.getElem?_append_right (by omega), List.getElem?_append_right (by rw [hl.len]; omega), p2, hl.len]
                congr 1; omega
          · cases h
        · cases h
    · cases h
  · cases h
theorem appendV_loc {t u : TypeId} {s x v : V} {m' : Mem} (h : appendV P t u s x m = some (v, m')) :
    Loc (fun m v m' => appendV P t u s x m = some (v, m')) (nms x) (nms s) true m v m' := by
  have h0 := h
  unfold appendV at h
  split at h
  · rename_i e hu
    split at h
    · rename_i zl sz by_ hz
      cases hc : isSliceT P u with
      | false => rw [hc] at h; cases h
      | true =>
        rw [hc] at h
        simp only [cond_true] at h
        split at h
        · rename_i new hnew
          split at h
          · split at h
            · rename_i hl0
              cases h
              refine ⟨Nat.le_refl _, (fun h => by cases h), fun _ _ _ => rfl, fun m2 h1 h2 => ⟨m2, ?_, by omega, fun n hn => by simp [nms] at hn, fun _ _ _ => rfl, fun j => ?_⟩⟩
              · unfold appendV
                simp only [hu, hz, hc, cond_true, contV_loc (fun n hn => h1 n (.inl hn)), hnew, hl0, if_true]
              · rw [List.getElem?_eq_none (by omega), List.getElem?_eq_none (by omega)]
            · rename_i hl0
              split at h
              · rename_i hb
                cases h
                refine ⟨by simp, (fun h => by cases h), fun k hk _ => by rw [List.getElem?_append_left hk], fun m2 h1 h2 => ?_⟩
                have e2 := h2 rfl
                refine ⟨m2 ++ [.row e sz new], ?_, by simp, fun n hn => by simp [nms] at hn, fun k hk _ => by rw [List.getElem?_append_left hk], fun j => ?_⟩
                · unfold appendV
                  simp only [hu, hz, hc, cond_true, contV_loc (fun n hn => h1 n (.inl hn)), hnew, hl0, if_false, hb, and_self, if_true, e2]
                · rw [List.getElem?_append_right (by omega), List.getElem?_append_right (by omega)]
                  congr 1; omega
              · cases h
          · rename_i sz' n off len
            split at h
            · rename_i _ ty sz'' es hm
              cases hc2 : Nat.beq sz sz' && (Nat.beq sz sz'' && (Nat.beq ty e && Nat.ble (off + len) es.length)) with
              | false => rw [hc2] at h; cases h
              | true =>
                rw [hc2] at h
                simp only [cond_true] at h
                split at h
                · rename_i hb
                  cases h
                  have hn := (List.getElem?_eq_some_iff.1 hm).1
                  refine ⟨by simp, (fun h => by cases h), fun k hk hkn => ?_, fun m2 h1 h2 => ?_⟩
                  · rw [List.getElem?_append_left (by simpa using hk), List.getElem?_set_ne (fun e => hkn (by simp [nms, e]))]
                  · have e2 := h2 rfl
                    have hm2 : m2[n]? = some (.row ty sz'' es) := by rw [h1 n (.inr (by simp [nms]))]; exact hm
                    refine ⟨m2.set n .dead ++ [.row e sz ((es.drop off).take len ++ new)], ?_, by simp, fun k hk _ => ?_, fun k hk hkn => ?_, fun j => ?_⟩
                    · unfold appendV
                      simp only [hu, hz, hc, cond_true, contV_loc (fun n hn => h1 n (.inl hn)), hnew, hm2, hc2, hb, and_self, if_true, e2]
                    · simp only [nms, List.mem_singleton] at hk
                      subst hk
                      rw [List.getElem?_append_left (by simp; omega), List.getElem?_append_left (by simp; omega), List.getElem?_set_self (by omega), List.getElem?_set_self hn]
                    · rw [List.getElem?_append_left (by simpa using hk), List.getElem?_set_ne (fun e => hkn (by simp [nms, e]))]
                    · rw [List.getElem?_append_right (by simp), List.getElem?_append_right (by simp)]
                      congr 1; simp
                · cases h
            · cases h
          · cases h
        · cases h
    · cases h
  · cases h
theorem appendA_loc {t u : TypeId} {s x v : V} {m' : Mem} (h : appendA P t u s x m = some (v, m')) :
    Loc (fun m v m' => appendA P t u s x m = some (v, m')) (nms x) (nms s) true m v m' := by
  cases x
  case int kk n =>
    simp only [appendA] at h ⊢
    have h0 := h
    unfold appendMV at h
    split at h
    · rename_i e k hu hu2
      split at h
      · rename_i z sz by_ hz
        split at h
        · split at h
          · rename_i hc
            cases h
            refine Loc.new fun m2 hl => ?_
            simp only [appendMV, hu, hu2, hz, if_pos hc, hl]
          · cases h
        · cases h
      · cases h
    · cases h
  all_goals (simp only [appendA] at h ⊢; exact appendV_loc h)
/-- The names that are reached hang on the blocks that are reached. -/
theorem reach_loc {m2 : Mem} : ∀ (k : Nat) (todo seen : List Nat), (∀ n ∈ reach m k todo seen, m2[n]? = m[n]?) → reach m2 k todo seen = reach m k todo seen
  | 0, _, _, _ => rfl
  | _ + 1, [], _, _ => rfl
  | k + 1, n :: todo, seen, h => by
    simp only [reach] at h ⊢
    cases hc : seen.contains n with
    | true =>
      rw [hc] at h
      simp only [cond_true] at h ⊢
      exact reach_loc k todo seen h
    | false =>
      rw [hc] at h
      simp only [cond_false] at h ⊢
      have sub : ∀ (k : Nat) (todo seen : List Nat) (m : Mem) (x : Nat), x ∈ seen → x ∈ reach m k todo seen := by
        intro k
        induction k with
        | zero => intro todo seen m x hx; exact hx
        | succ k ih =>
          intro todo seen m x hx
          cases todo with
          | nil => exact hx
          | cons y ys =>
            simp only [reach]
            cases seen.contains y with
            | true => exact ih _ _ _ _ hx
            | false => exact ih _ _ _ _ (by simp [hx])
      have hn : m2[n]? = m[n]? := h n (sub _ _ _ _ _ (by simp))
      have hg : m2.getD n .dead = m.getD n .dead := by simp [List.getD, hn]
      rw [hg]
      exact reach_loc k _ _ h
end
end Go.Proofs.Ytjjenpdjmcmgbaa.Ab
namespace Go.Proofs.Ytjjenpdjmcmgbaa.Ab
open Go
set_option linter.unusedSimpArgs false
set_option linter.unusedVariables false
section
variable {P : Program} {m : Mem}
theorem merge_get {L : List Nat} {m2 m1 : Mem} (hn : L.Nodup) (hl : m2.length = m.length) (hL : ∀ n ∈ L, n < m.length) (hle : L.length ≤ m1.length) (n : Nat) :
    (merge L m2 m1)[n]? = if n < m2.length ∧ n ∉ L then m2[n]? else (merge L m m1)[n]? := by
  unfold merge
  rw [hl]
  by_cases h : n < m.length
  · rw [List.getElem?_append_left (by rw [setAll_length]; omega), List.getElem?_append_left (by rw [setAll_length]; omega)]
    by_cases hm : n ∈ L
    · rw [if_neg (by simp [hm])]
      obtain ⟨i, hi⟩ := List.getElem?_of_mem hm
      cases hb : ((m1.take L.length).map (renB (back L m.length)))[i]? with
      | some b => rw [setAll_in L _ m2 i n b hn hi hb (by omega), setAll_in L _ m i n b hn hi hb h]
      | none =>
        exfalso
        have hil := (List.getElem?_eq_some_iff.1 hi).1
        rw [List.getElem?_eq_none_iff] at hb
        simp at hb
        omega
    · rw [if_pos ⟨h, hm⟩, setAll_out L _ m2 n hm]
  · rw [if_neg (by omega), List.getElem?_append_right (by rw [setAll_length]; omega), List.getElem?_append_right (by rw [setAll_length]; omega), setAll_length, setAll_length, hl]
theorem getD_eq {m2 : Mem} {n : Nat} (h : m2[n]? = m[n]?) : m2.getD n .dead = m.getD n .dead := by simp [List.getD, h]
theorem putV_loc {t : TypeId} {x key v : V} {m' : Mem} (h : putV P t m x key v = some m') : ∃ n b, nms x = [n] ∧ n < m.length ∧ m' = m.set n b ∧ ∀ m2 : Mem, m2[n]? = m[n]? → putV P t m2 x key v = some (m2.set n b) := by
  unfold putV at h
  split at h
  · rename_i k e hu
    cases hkv : keyV P k key with
    | false => rw [hkv] at h; cases h
    | true =>
      rw [hkv] at h
      simp only [cond_true] at h
      split at h
      · rename_i n
        split at h
        · rename_i es hm
          split at h
          · rename_i hf
            cases h
            exact ⟨n, _, rfl, (List.getElem?_eq_some_iff.1 hm).1, rfl, fun m2 hm2 => by simp [putV, hu, hkv, hm2, hm, hf]⟩
          · rename_i i u' hf
            split at h
            · rename_i k0 u0 hi
              cases hsk : sameK k0 key with
              | false => rw [hsk] at h; cases h
              | true =>
                rw [hsk] at h
                cases h
                exact ⟨n, _, rfl, (List.getElem?_eq_some_iff.1 hm).1, rfl, fun m2 hm2 => by simp [putV, hu, hkv, hm2, hm, hf, hi, hsk]⟩
            · cases h
          · cases h
        · cases h
      · cases h
  · cases h
theorem delV_loc {t : TypeId} {x key : V} {m' : Mem} (h : delV P t m x key = some m') : ∃ n b, nms x = [n] ∧ n < m.length ∧ m' = m.set n b ∧ ∀ m2 : Mem, m2[n]? = m[n]? → delV P t m2 x key = some (m2.set n b) := by
  unfold delV at h
  split at h
  · rename_i k e hu
    cases hkv : keyV P k key with
    | false => rw [hkv] at h; cases h
    | true =>
      rw [hkv] at h
      simp only [cond_true] at h
      split at h
      · rename_i n
        split at h
        · rename_i es hm
          split at h
          · rename_i hf
            cases h
            exact ⟨n, _, rfl, (List.getElem?_eq_some_iff.1 hm).1, rfl, fun m2 hm2 => by simp [delV, hu, hkv, hm2, hm, hf]⟩
          · rename_i hf
            cases h
            exact ⟨n, _, rfl, (List.getElem?_eq_some_iff.1 hm).1, rfl, fun m2 hm2 => by simp [delV, hu, hkv, hm2, hm, hf]⟩
          · cases h
        · cases h
      · cases h
  · cases h
theorem lookupV_loc {t : TypeId} {x key : V} {ok : Bool} {m2 : Mem} (h : ∀ n ∈ mnm x, m2[n]? = m[n]?) : lookupV P t m2 x key ok = lookupV P t m x key ok := by
  cases x with
  | mp n =>
    have := h n (by simp [mnm])
    simp only [lookupV, this]
  | _ => rfl
/-- A step's place, whatever the operation. -/
theorem StepV.loc {o : Oper} {env : Env} {v : V} {m' : Mem} {inf : Info} (h : StepV P o env m v m') (hi : infoD (evO env) m o.op v = some inf) (hb : (inf.rd ++ inf.wr).all (fun n => Nat.blt n m.length) = true) :
    Loc (fun m v m' => StepV P o env m v m' ∧ infoD (evO env) m o.op v = some inf) inf.rd inf.wr inf.al m v m' := by
  have h0 := h
  have hi0 := hi
  unfold StepV at h
  unfold infoD at hi
  split at h
  · rename_i f vs hc
    rw [hc] at hi
    cases hi
    simp only [List.nil_append, List.all_eq_true, Nat.blt_eq] at hb
    obtain ⟨h1, h2, h3⟩ := h
    have hok := h1
    unfold okCall at hok
    simp only [Bool.and_eq_true] at hok
    obtain ⟨c1, c2, c3⟩ := closed_parts hok.2
    -- the same call in another memory
    have same : ∀ m2 : Mem, (∀ n ∈ rootsV m vs, m2[n]? = m[n]?) → rootsV m2 vs = rootsV m vs ∧ okCall (rootsV m vs) m2 vs = true ∧ view (rootsV m vs) m2 = view (rootsV m vs) m := by
      intro m2 hm
      refine ⟨reach_loc _ _ _ hm, ?_, ?_⟩
      · unfold okCall closedB
        have e1 : ∀ n ∈ rootsV m vs, n < m2.length := fun n hn => by
          have := hm n hn
          rw [List.getElem?_eq_getElem (c2 n hn)] at this
          exact (List.getElem?_eq_some_iff.1 this).1
        have hcl := hok.2
        unfold closedB at hcl
        simp only [Bool.and_eq_true, List.all_eq_true, Nat.blt_eq] at hcl ⊢
        exact ⟨hok.1, hcl.1, e1, fun n hn => by rw [getD_eq (hm n hn)]; exact hcl.2.2 n hn⟩
      · unfold view
        exact List.map_congr_left fun n hn => by rw [getD_eq (hm n hn)]
    rcases h3 with ⟨g1, g2, rfl, g3⟩ | ⟨v1, m1, g1, g2, g3, g4, rfl⟩
    · simp only [g1, g2, Bool.and_self, Bool.not_true]
      have hL : rootsV m' vs = [] := List.isEmpty_iff.1 g1
      rw [hL]
      refine Loc.pure fun m2 hm2 => ?_
      obtain ⟨s1, s2, s3⟩ := same m2 (by rw [hL]; simp)
      refine ⟨?_, ?_⟩
      · unfold StepV
        rw [hc]
        simp only [s1, s2, s3]
        exact ⟨trivial, h2, .inl ⟨g1, g2, trivial, g3⟩⟩
      · unfold infoD
        rw [hc]
        simp only [s1, hL, g2, List.isEmpty_nil, Bool.and_self, Bool.not_true]
    · simp only [g3, Bool.not_false]
      have hlen := merge_length (rootsV m vs) m m1
      refine ⟨by omega, (fun h => by cases h), fun n hn hL => ?_, fun m2 k1 k2 => ?_⟩
      · unfold merge
        rw [List.getElem?_append_left (by rw [setAll_length]; exact hn), setAll_out _ _ _ _ hL]
      · have e2 := k2 rfl
        obtain ⟨s1, s2, s3⟩ := same m2 (fun n hn => k1 n (.inr hn))
        have hle : (rootsV m vs).length ≤ m1.length := by
          unfold okBack at g2
          simp only [Bool.and_eq_true, Nat.ble_eq] at g2
          exact g2.2.2
        have hmg := merge_get (m := m) (m2 := m2) (m1 := m1) c1 e2 c2 hle
        refine ⟨merge (rootsV m vs) m2 m1, ⟨?_, ?_⟩, ?_, fun n hn hlt => ?_, fun n hlt hn => ?_, fun j => ?_⟩
        · unfold StepV
          rw [hc]
          simp only [s1, s2, s3, e2]
          exact ⟨trivial, h2, .inr ⟨v1, m1, g1, g2, g3, g4, rfl⟩⟩
        · unfold infoD
          rw [hc]
          simp only [s1, g3, Bool.not_false]
        · rw [merge_length, merge_length]; omega
        · rw [hmg n, if_neg (by simp [hn])]
        · rw [hmg n, if_pos ⟨hlt, hn⟩]
        · rw [hmg, if_neg (by omega), e2]
  · rename_i hc
    rw [hc] at hi
    simp only at hi
    obtain ⟨dst, op, ty, pos, af, gd⟩ := o
    simp only at h hi hc h0 hi0
    have stepOf : ∀ {m2 m2' : Mem} {u : V}, execD P (evO env) m2 op = some (.val u m2') → StepV P { dst := dst, op := op, type := ty, pos := pos, after := af, guard := gd } env m2 u m2' := by
      intro m2 m2' u he
      unfold StepV
      simp only [hc, he]
      exact ⟨trivial, trivial⟩
    have pureS : (∃ q : Option V, ∀ m2, execD P (evO env) m2 op = q.map (Res.val · m2)) → (∀ m2 : Mem, infoD (evO env) m2 op v = some ⟨[], [], false⟩) → inf = ⟨[], [], false⟩ →
        Loc (fun m v m' => StepV P { dst := dst, op := op, type := ty, pos := pos, after := af, guard := gd } env m v m' ∧ infoD (evO env) m op v = some inf) inf.rd inf.wr inf.al m v m' := by
      rintro ⟨q, e1⟩ e4 e5
      subst e5
      rw [e1] at h
      cases q with
      | none => exact h.elim
      | some u =>
        simp only [Option.map_some] at h
        obtain ⟨rfl, rfl⟩ := h
        refine Loc.pure fun m2 _ => ⟨stepOf (by rw [e1 m2]; rfl), e4 m2⟩
    have newS : ∀ {b : B} {u : V}, (∀ m2 : Mem, m2.length = m.length → execD P (evO env) m2 op = some (.val u (m2 ++ [b]))) → (∀ m2 : Mem, infoD (evO env) m2 op v = some ⟨[], [], true⟩) → inf = ⟨[], [], true⟩ →
        Loc (fun m v m' => StepV P { dst := dst, op := op, type := ty, pos := pos, after := af, guard := gd } env m v m' ∧ infoD (evO env) m op v = some inf) inf.rd inf.wr inf.al m v m' := by
      intro b u e1 e4 e5
      subst e5
      rw [e1 m rfl] at h
      simp only at h
      obtain ⟨rfl, rfl⟩ := h
      exact Loc.new fun m2 hl => ⟨stepOf (e1 m2 hl), e4 m2⟩
    cases op with
    | move x => simp only [Option.some.injEq] at hi; exact pureS ⟨some (evO env x), fun _ => rfl⟩ (fun _ => rfl) hi.symm
    | assign x => simp only [Option.some.injEq] at hi; exact pureS ⟨some (evO env x), fun _ => rfl⟩ (fun _ => rfl) hi.symm
    | pick c x y =>
      simp only [Option.some.injEq] at hi
      refine pureS ⟨match evO env c with | .bool t => some (pickV t (evO env x) (evO env y)) | _ => none, fun _ => ?_⟩ (fun _ => rfl) hi.symm
      simp only [execD]
      cases evO env c <;> rfl
    | alloc t =>
      simp only [Option.some.injEq] at hi
      simp only [execD] at h
      unfold allocV newV at h
      cases hti : P.info? t with
      | none => simp [hti] at h
      | some i =>
        cases hz : i.zero with
        | none => simp [hti, hz] at h
        | some z =>
          cases hb : cellsB (constV z) with
          | false => simp [hti, hz, hb] at h
          | true => exact newS (b := .var t (cellsOfV (constV z))) (u := .ptr m.length 0) (fun m2 hl => by simp [execD, allocV, newV, hti, hz, hb, hl]) (fun _ => rfl) hi.symm
    | box t x =>
      simp only [Option.some.injEq] at hi
      simp only [execD] at h
      unfold newV at h
      cases hb : cellsB (evO env x) with
      | false => simp [hb] at h
      | true => exact newS (b := .var t (cellsOfV (evO env x))) (u := .ptr m.length 0) (fun m2 hl => by simp [execD, newV, hb, hl]) (fun _ => rfl) hi.symm
    | build t ps => simp only [Option.some.injEq] at hi; exact pureS ⟨_, fun _ => rfl⟩ (fun _ => rfl) hi.symm
    | buildSlice t n ps =>
      simp only at hi
      cases hn : stys (ps.toList.map fun p => evO env p.2) with
      | false =>
        rw [hn] at hi
        simp only [cond_false, Option.some.injEq] at hi
        subst hi
        simp only [execD] at h
        cases hl : bsliceV P t n (ps.toList.map fun p => (p.1, evO env p.2)) m with
        | none => rw [hl] at h; exact h.elim
        | some q =>
          obtain ⟨u, m1⟩ := q
          rw [hl] at h
          simp only [Option.map_some] at h
          obtain ⟨rfl, rfl⟩ := h
          obtain ⟨a1, a2, a3, a4⟩ := bsliceV_loc hl
          rw [List.map_map] at a3 a4
          refine ⟨a1, a2, a3, fun m2 k1 k2 => ?_⟩
          obtain ⟨m2', b1, b2⟩ := a4 m2 k1 k2
          exact ⟨m2', ⟨stepOf (by simp only [execD, b1, Option.map_some]), by simp only [infoD, calleeV, hn, cond_false]⟩, b2⟩
      | true =>
        rw [hn] at hi
        simp only [cond_true, Option.some.injEq] at hi
        have hps : stys ((ps.toList.map fun p => (p.1, evO env p.2)).map (·.2)) = true := by rw [List.map_map]; exact hn
        simp only [execD] at h
        unfold bsliceV at h
        cases hu : P.underlying t with
        | none => simp [hu] at h
        | some d =>
          cases d with
          | slice e =>
            cases hz : zeroE P e with
            | none => simp [hu, hz] at h
            | some zz =>
              obtain ⟨z, sz, by_⟩ := zz
              cases hb : Nat.ble (n * sz) 16777216 with
              | false => simp [hu, hz, hb] at h
              | true =>
                cases hf : fillE sz (List.replicate n z) (ps.toList.map fun p => (p.1, evO env p.2)) with
                | none => simp [hu, hz, hb, frzQ_nf _ _ hps, hf] at h
                | some es => exact newS (b := .row e sz es) (u := .sl sz m.length 0 n) (fun m2 hl => by simp [execD, bsliceV, hu, hz, hb, frzQ_nf _ _ hps, hf, hl]) (fun _ => by simp only [infoD, calleeV, hn, cond_true]) hi.symm
          | _ => simp [hu] at h
    | load t a =>
      simp only [Option.some.injEq] at hi
      subst hi
      simp only [execD] at h
      cases hl : loadV P m t (evO env a) with
      | none => rw [hl] at h; exact h.elim
      | some u =>
        rw [hl] at h
        simp only [Option.map_some] at h
        obtain ⟨rfl, rfl⟩ := h
        refine Loc.pure fun m2 hm2 => ⟨stepOf ?_, rfl⟩
        simp only [execD, loadV_loc hm2, hl, Option.map_some]
    | store t a x =>
      simp only [Option.some.injEq] at hi
      subst hi
      simp only [execD] at h
      cases hl : storeV P t m (evO env a) (evO env x) with
      | none => rw [hl] at h; exact h.elim
      | some u =>
        rw [hl] at h
        simp only [Option.map_some] at h
        obtain ⟨rfl, rfl⟩ := h
        rcases storeV_loc hl with ⟨n, b, k1, k2, rfl, k3⟩ | ⟨k1, rfl, k3⟩
        · simp only [k1]
          refine Loc.store k2 fun m2 hm2 => ⟨?_, by simp only [infoD, calleeV, k1]⟩
          unfold StepV
          simp only [hc, execD, k3 m2 hm2, Option.map_some]
          exact ⟨trivial, trivial⟩
        · simp only [k1]
          refine Loc.pure fun m2 hm2 => ⟨?_, by simp only [infoD, calleeV, k1]⟩
          unfold StepV
          simp only [hc, execD, k3 m2, Option.map_some]
          exact ⟨trivial, trivial⟩
    | nilCheck x =>
      simp only [Option.some.injEq] at hi
      refine pureS ⟨bif nonnil (evO env x) then some (evO env x) else none, fun _ => ?_⟩ (fun _ => rfl) hi.symm
      simp only [execD]
      cases nonnil (evO env x) <;> rfl
    | binOp b t x y yt => simp only [Option.some.injEq] at hi; exact pureS ⟨_, fun _ => rfl⟩ (fun _ => rfl) hi.symm
    | unOp b t x => simp only [Option.some.injEq] at hi; exact pureS ⟨_, fun _ => rfl⟩ (fun _ => rfl) hi.symm
    | convert s d x =>
      simp only [Option.some.injEq] at hi
      subst hi
      simp only [execD] at h
      cases hl : convM P m s d (evO env x) with
      | none => rw [hl] at h; exact h.elim
      | some u =>
        rw [hl] at h
        simp only [Option.map_some] at h
        obtain ⟨rfl, rfl⟩ := h
        refine Loc.pure fun m2 h2 => ⟨?_, rfl⟩
        unfold StepV
        simp only [hc, execD, convM_loc h2, hl, Option.map_some]
        exact ⟨trivial, trivial⟩
    | makeFunc f a b =>
      simp only [Option.some.injEq] at hi
      cases f with
      | func f => exact pureS ⟨some _, fun _ => rfl⟩ (fun _ => rfl) hi.symm
      | _ => simp [execD] at h
    | makeInterface t x =>
      simp only [Option.some.injEq] at hi
      refine pureS ⟨bif P.concrete t then some (.ifc t (evO env x)) else none, fun _ => ?_⟩ (fun _ => rfl) hi.symm
      simp only [execD]
      cases P.concrete t <;> rfl
    | slice t x lo hi' mx =>
      simp only [Option.some.injEq] at hi
      cases mx with
      | none => exact pureS ⟨_, fun _ => rfl⟩ (fun _ => rfl) hi.symm
      | some _ => simp [execD] at h
    | fieldAddr t x f => simp only [Option.some.injEq] at hi; exact pureS ⟨_, fun _ => rfl⟩ (fun _ => rfl) hi.symm
    | field t x f => simp only [Option.some.injEq] at hi; exact pureS ⟨_, fun _ => rfl⟩ (fun _ => rfl) hi.symm
    | indexAddr t x y => simp only [Option.some.injEq] at hi; exact pureS ⟨_, fun _ => rfl⟩ (fun _ => rfl) hi.symm
    | index t x y => simp only [Option.some.injEq] at hi; exact pureS ⟨_, fun _ => rfl⟩ (fun _ => rfl) hi.symm
    | extract x y => simp only [Option.some.injEq] at hi; exact pureS ⟨_, fun _ => rfl⟩ (fun _ => rfl) hi.symm
    | call c =>
      obtain ⟨cal, args, ts⟩ := c
      cases cal with
      | value f => simp [execD] at h
      | invoke a b => simp [execD] at h
      | builtin b =>
        cases b
        case append =>
          simp only at hi
          split at hi
          · rename_i s x hargs
            simp only [Option.some.injEq] at hi
            subst hi
            simp only [execD, hargs] at h
            cases hts : ts.toList with
            | nil => simp [hts] at h
            | cons t r =>
              cases r with
              | nil => simp [hts] at h
              | cons u r =>
                cases r with
                | cons _ _ => simp [hts] at h
                | nil =>
                  simp only [hts] at h
                  cases ha : appendA P t u (evO env s) (evO env x) m with
                  | none => rw [ha] at h; exact h.elim
                  | some p =>
                    obtain ⟨q, mq⟩ := p
                    rw [ha] at h
                    simp only [Option.map_some] at h
                    obtain ⟨rfl, rfl⟩ := h
                    obtain ⟨a1, a2, a3, a4⟩ := appendA_loc ha
                    refine ⟨a1, a2, a3, fun m2 k1 k2 => ?_⟩
                    obtain ⟨m2', b1, b2⟩ := a4 m2 k1 k2
                    exact ⟨m2', ⟨stepOf (by simp only [execD, hargs, hts, b1, Option.map_some]), by simp only [infoD, calleeV, hargs]⟩, b2⟩
          · cases hi
        case len =>
          simp only at hi
          split at hi
          · rename_i x hargs
            simp only [Option.some.injEq] at hi
            subst hi
            simp only [execD, hargs] at h
            cases hts : ts.toList with
            | nil => simp [hts] at h
            | cons t r =>
              cases r with
              | cons _ _ => simp [hts] at h
              | nil =>
                simp only [hts] at h
                cases ha : lenV P m t (evO env x) with
                | none => rw [ha] at h; exact h.elim
                | some p =>
                  rw [ha] at h
                  simp only [Option.map_some] at h
                  obtain ⟨rfl, rfl⟩ := h
                  refine Loc.pure fun m2 hm2 => ⟨stepOf ?_, by simp only [infoD, calleeV, hargs]⟩
                  have : lenV P m2 t (evO env x) = lenV P m' t (evO env x) := by
                    cases hx : evO env x <;> simp only [lenV]
                    rw [hm2 _ (by rw [hx]; simp [mnm])]
                  simp only [execD, hargs, hts, this, ha, Option.map_some]
          · cases hi
        case delete =>
          simp only at hi
          split at hi
          · rename_i x k hargs
            simp only [Option.some.injEq] at hi
            subst hi
            simp only [execD, hargs] at h
            cases hts : ts.toList with
            | nil => simp [hts] at h
            | cons t r =>
              cases r with
              | nil => simp [hts] at h
              | cons u r =>
                cases r with
                | cons _ _ => simp [hts] at h
                | nil =>
                  simp only [hts] at h
                  cases hl : delV P t m (evO env x) (evO env k) with
                  | none => rw [hl] at h; exact h.elim
                  | some mq =>
                    rw [hl] at h
                    simp only [Option.map_some] at h
                    obtain ⟨rfl, rfl⟩ := h
                    obtain ⟨n, b, k1, k2, rfl, k3⟩ := delV_loc hl
                    simp only [k1]
                    refine Loc.store k2 fun m2 hm2 => ⟨?_, by simp only [infoD, calleeV, hargs, k1]⟩
                    exact stepOf (by simp only [execD, hargs, hts, k3 m2 hm2, Option.map_some])
          · cases hi
        case cap =>
          simp only [Option.some.injEq] at hi
          refine pureS ⟨match args.toList, ts.toList with | [x], [t] => capV P t (evO env x) | _, _ => none, fun _ => ?_⟩ (fun _ => rfl) hi.symm
          simp only [execD]
          generalize args.toList = l
          generalize ts.toList = l2
          rcases l with _ | ⟨a, _ | ⟨b, r⟩⟩ <;> rcases l2 with _ | ⟨c, _ | ⟨d, r2⟩⟩ <;> rfl
        case min =>
          simp only [Option.some.injEq] at hi
          refine pureS ⟨match args.toList with | [x, y] => minmaxV false (evO env x) (evO env y) | _ => none, fun _ => ?_⟩ (fun _ => rfl) hi.symm
          simp only [execD]
          generalize args.toList = l
          rcases l with _ | ⟨a, _ | ⟨b, _ | ⟨c, r⟩⟩⟩ <;> rfl
        case max =>
          simp only [Option.some.injEq] at hi
          refine pureS ⟨match args.toList with | [x, y] => minmaxV true (evO env x) (evO env y) | _ => none, fun _ => ?_⟩ (fun _ => rfl) hi.symm
          simp only [execD]
          generalize args.toList = l
          rcases l with _ | ⟨a, _ | ⟨b, _ | ⟨c, r⟩⟩⟩ <;> rfl
        all_goals first | (cases hi; done) | (simp [execD] at h; done)
    | makeSlice t x y =>
      simp only [Option.some.injEq] at hi
      simp only [execD] at h
      cases hq : makeSliceV P t (evO env x) (evO env y) m with
      | none => rw [hq] at h; exact h.elim
      | some p =>
        have : ∃ e sz n z, ∀ m2 : Mem, m2.length = m.length → makeSliceV P t (evO env x) (evO env y) m2 = some (.sl sz m.length 0 n, m2 ++ [.row e sz (List.replicate n z)]) := by
          unfold makeSliceV at hq
          split at hq
          · rename_i e hu
            split at hq
            · rename_i z sz by_ hz
              split at hq
              · rename_i n k hx hy
                split at hq
                · rename_i hc
                  exact ⟨e, sz, n.toNat, z, fun m2 hm2 => by simp only [makeSliceV, hu, hz, hx, hy, hm2]; rw [if_pos hc]⟩
                · cases hq
              · cases hq
            · cases hq
          · cases hq
        obtain ⟨e, sz, n, z, hall⟩ := this
        exact newS (b := .row e sz (List.replicate n z)) (u := .sl sz m.length 0 n) (fun m2 hl => by simp only [execD, hall m2 hl, Option.map_some]) (fun _ => rfl) hi.symm
    | makeMap t r =>
      cases r with
      | some _ => simp [execD] at h
      | none =>
        simp only [Option.some.injEq] at hi
        exact newS (b := .map [] [] 0) (u := .mp m.length) (fun m2 hl => by simp only [execD, hl]) (fun _ => rfl) hi.symm
    | lookup t x k ok =>
      simp only [Option.some.injEq] at hi
      subst hi
      simp only [execD] at h
      cases hl : lookupV P t m (evO env x) (evO env k) ok with
      | none => rw [hl] at h; exact h.elim
      | some u =>
        rw [hl] at h
        simp only [Option.map_some] at h
        obtain ⟨rfl, rfl⟩ := h
        refine Loc.pure fun m2 hm2 => ⟨stepOf ?_, rfl⟩
        simp only [execD, lookupV_loc hm2, hl, Option.map_some]
    | mapUpdate t x k v' =>
      simp only [Option.some.injEq] at hi
      subst hi
      simp only [execD] at h
      cases hl : putV P t m (evO env x) (evO env k) (evO env v') with
      | none => rw [hl] at h; exact h.elim
      | some u =>
        rw [hl] at h
        simp only [Option.map_some] at h
        obtain ⟨rfl, rfl⟩ := h
        obtain ⟨n, b, k1, k2, rfl, k3⟩ := putV_loc hl
        simp only [k1]
        refine Loc.store k2 fun m2 hm2 => ⟨?_, by simp only [infoD, calleeV, k1]⟩
        unfold StepV
        simp only [hc, execD, k3 m2 hm2, Option.map_some]
        exact ⟨trivial, trivial⟩
    | insert t x k v' =>
      simp only [Option.some.injEq] at hi
      subst hi
      simp only [execD] at h
      cases hl : putV P t m (evO env x) (evO env k) (evO env v') with
      | none => rw [hl] at h; exact h.elim
      | some u =>
        rw [hl] at h
        simp only [Option.map_some] at h
        obtain ⟨rfl, rfl⟩ := h
        obtain ⟨n, b, k1, k2, rfl, k3⟩ := putV_loc hl
        simp only [k1]
        refine Loc.store k2 fun m2 hm2 => ⟨?_, by simp only [infoD, calleeV, k1]⟩
        unfold StepV
        simp only [hc, execD, k3 m2 hm2, Option.map_some]
        exact ⟨trivial, trivial⟩
    | typeAssert x u t ok => cases hi
    | mapEntry _ _ _ => cases hi
    | entryStore _ _ _ _ => cases hi
    | range _ _ => cases hi
    | next _ _ => cases hi
    | entry _ => cases hi
    | _ => simp [execD] at h
end
end Go.Proofs.Ytjjenpdjmcmgbaa.Ab
namespace Go.Proofs.Ytjjenpdjmcmgbaa.Ab
open Go
set_option linter.unusedSimpArgs false
set_option linter.unusedVariables false
/-- A step of an operation that may not be wanted. -/
def GStep (P : Program) (all : Array Oper) (o : Oper) (inf : Info) (env : Env) (m : Mem) (v : V) (m' : Mem) : Prop :=
  match wantD all env o with
  | none => False
  | some false => v = .tup [] ∧ m' = m ∧ inf = ⟨[], [], false⟩
  | some true => StepI P o env m v m' inf ∧ panicV (evO env) o.op = none ∧ True ∧ (inf.rd ++ inf.wr).all (fun n => Nat.blt n m.length) = true
/-- Whatever order is picked from here on, each operation with its own places. -/
def anyA (P : Program) (all : Array Oper) (X : Nat → Env → Prop) (fps : Nat → Info) (K : Env → Mem → Prop) : Nat → Array Bool → Env → Mem → Prop
  | 0, listed, env, m => Region.ready .any all listed = [] ∧ K env m
  | fuel + 1, listed, env, m => (Region.ready .any all listed = [] → K env m) ∧
    ∀ i ∈ Region.ready .any all listed, ∃ o, all[i]? = some o ∧ ∃ v m', (GStep P all o (fps i) env m v m' ∧ X i env) ∧ anyA P all X fps K fuel (listed.setIfInBounds i true) (put env o.dst v) m'
/-- What is asked beside of an operation looks at what the operation looks at. -/
def Keen (all : Array Oper) (X : Nat → Env → Prop) : Prop := ∀ i o, all[i]? = some o → ∀ (env : Env) (d : Option Nat) (u : V), (∀ k, d = some k → k ∉ o.looksAt all) → (X i (put env d u) ↔ X i env)
/-- The same as `runDrawn`, with something asked beside. -/
def runDrawnX (P : Program) (all : Array Oper) (X : Nat → Env → Prop) (K : Env → Mem → Prop) : Nat → List (Nat × Info × Nat) → List Oper → Env → Mem → Prop
  | _, _, [], env, m => K env m
  | k, acc, o :: r, env, m => X k env ∧
    match wantD all env o with
    | none => False
    | some false => runDrawnX P all X K (k + 1) acc r (put env o.dst (.tup [])) m
    | some true => ∃ v m' inf, StepI P o env m v m' inf ∧ fits all o env m v acc inf ∧ runDrawnX P all X K (k + 1) ((k, inf, m.length) :: acc) r (put env o.dst v) m'
theorem runDrawn_X {P : Program} {all : Array Oper} {K : Env → Mem → Prop} : ∀ (l : List Oper) (k : Nat) (acc : List (Nat × Info × Nat)) (env : Env) (m : Mem), runDrawn P all K k acc l env m → runDrawnX P all (fun _ _ => True) K k acc l env m
  | [], _, _, _, _, h => h
  | o :: r, k, acc, env, m, h => by
    simp only [runDrawn] at h
    simp only [runDrawnX]
    refine ⟨trivial, ?_⟩
    split at h
    · exact h.elim
    · exact runDrawn_X r _ _ _ _ h
    · obtain ⟨v, m', inf, h1, h2, h3⟩ := h
      exact ⟨v, m', inf, h1, h2, runDrawn_X r _ _ _ _ h3⟩
theorem runDrawnX_mono {P : Program} {all : Array Oper} {X : Nat → Env → Prop} {K K' : Env → Mem → Prop} (hK : ∀ e m, K e m → K' e m) : ∀ (l : List Oper) (k : Nat) (acc : List (Nat × Info × Nat)) (env : Env) (m : Mem), runDrawnX P all X K k acc l env m → runDrawnX P all X K' k acc l env m
  | [], _, _, _, _, h => hK _ _ h
  | o :: r, k, acc, env, m, h => by
    simp only [runDrawnX] at h ⊢
    refine ⟨h.1, ?_⟩
    replace h := h.2
    split at h
    · exact h.elim
    · exact runDrawnX_mono hK r _ _ _ _ h
    · obtain ⟨v, m', inf, h1, h2, h3⟩ := h
      exact ⟨v, m', inf, h1, h2, runDrawnX_mono hK r _ _ _ _ h3⟩
section
variable {P : Program} {all : Array Oper}
theorem put_look {env : Env} {d : Option Nat} {v : V} {t : Nat} (h : ∀ k, d = some k → k ≠ t) : put env d v t = env t := by
  cases d with
  | none => rfl
  | some k =>
    simp only [put, upd]
    cases hb : Nat.beq k t with
    | true => exact absurd (Nat.eq_of_beq_eq_true hb) (h k rfl)
    | false => rfl
theorem put_comm {env : Env} {d e : Option Nat} {u v : V} (h : ∀ k, d = some k → e ≠ some k) : put (put env d u) e v = put (put env e v) d u := by
  funext t
  cases d with
  | none => rfl
  | some k =>
    cases e with
    | none => rfl
    | some j =>
      have hkj : k ≠ j := fun e => h k rfl (by rw [e])
      simp only [put, upd]
      cases h1 : Nat.beq j t <;> cases h2 : Nat.beq k t <;> try rfl
      exact absurd ((Nat.eq_of_beq_eq_true h2).trans (Nat.eq_of_beq_eq_true h1).symm) hkj
/-- Operations look at their operands alone. -/
theorem evO_put {env : Env} {d : Option Nat} {v : V} {x : Operand} (h : ∀ k, d = some k → x ≠ .tmp k) : evO (put env d v) x = evO env x := by
  cases x with
  | tmp t => exact put_look fun k hk e => h k hk (by rw [e])
  | _ => rfl
theorem calleeV_congr {e e' : Operand → V} {op : Op} (h : ∀ x ∈ op.operands, e x = e' x) : calleeV e op = calleeV e' op := by
  unfold calleeV
  split
  · rename_i f args ts
    have hf : e f = e' f := h f (by simp [Op.operands, Call.operands])
    have ha : args.toList.map e = args.toList.map e' := List.map_congr_left fun x hx => h x (by simp [Op.operands, Call.operands]; right; simpa using hx)
    simp only [hf, ha]
  · rename_i hno
    first
    | rfl
    | (split
       · rename_i f args ts; exact absurd rfl (hno f args ts)
       · rfl)
theorem panicV_congr {e e' : Operand → V} {op : Op} (h : ∀ x ∈ op.operands, e x = e' x) : panicV e op = panicV e' op := by
  cases op <;> simp only [panicV]
  rename_i x
  rw [h x (by simp [Op.operands])]
theorem pairs_congr {e e' : Operand → V} {ps : Array (Nat × Operand)} (h : ∀ x ∈ (ps.toList.map (·.2)), e x = e' x) : (ps.toList.map fun p => (p.1, e p.2)) = (ps.toList.map fun p => (p.1, e' p.2)) :=
  List.map_congr_left fun p hp => by rw [h p.2 (List.mem_map.2 ⟨p, hp, rfl⟩)]
theorem execD_congr {e e' : Operand → V} {m : Mem} {op : Op} (h : ∀ x ∈ op.operands, e x = e' x) : execD P e m op = execD P e' m op := by
  cases op with
  | build t ps => simp only [execD]; rw [pairs_congr fun x hx => h x (by simpa [Op.operands] using hx)]
  | buildSlice t n ps => simp only [execD]; rw [pairs_congr fun x hx => h x (by simpa [Op.operands] using hx)]
  | makeFunc f a b =>
    cases f <;> simp only [execD]
    rw [List.map_congr_left (l := a.toList) fun x hx => h x (by simp [Op.operands]; left; simpa using hx), List.map_congr_left (l := b.toList) fun x hx => h x (by simp [Op.operands]; right; simpa using hx)]
  | slice t x lo hi mx =>
    cases mx with
    | some _ => rfl
    | none =>
      simp only [execD]
      rw [h x (by simp [Op.operands])]
      cases lo <;> cases hi <;> simp_all [Op.operands]
  | call c =>
    obtain ⟨cal, args, ts⟩ := c
    cases cal with
    | value f => rfl
    | invoke a b => rfl
    | builtin b =>
      have ha : ∀ x ∈ args.toList, e x = e' x := fun x hx => h x (by simp [Op.operands, Call.operands]; simpa using hx)
      cases b <;> simp only [execD]
      all_goals
        split
        · first
          | (rename_i heq1 heq2; rw [ha _ (by rw [heq1]; simp), ha _ (by rw [heq1]; simp)]; done)
          | (rename_i heq1 heq2; rw [ha _ (by rw [heq1]; simp)]; done)
          | (rename_i heq1; rw [ha _ (by rw [heq1]; simp), ha _ (by rw [heq1]; simp)]; done)
        · rfl
  | makeMap t r =>
    cases r with
    | none => rfl
    | some _ => rfl
  | typeAssert x u t ok =>
    cases ok with
    | false => rfl
    | true => simp only [execD]; rw [h x (by simp [Op.operands])]
  | next x s =>
    cases s with
    | true => rfl
    | false => simp only [execD]; rw [h x (by simp [Op.operands])]
  | _ => first
    | rfl
    | (simp only [execD]; simp_all [Op.operands]; done)
theorem infoD_congr {e e' : Operand → V} {m : Mem} {op : Op} {v : V} (h : ∀ x ∈ op.operands, e x = e' x) : infoD e m op v = infoD e' m op v := by
  unfold infoD
  rw [calleeV_congr h]
  split
  · rfl
  · cases op with
    | buildSlice t n ps =>
      simp only
      have : (ps.toList.map fun p => e p.2) = (ps.toList.map fun p => e' p.2) := List.map_congr_left fun p hp => h p.2 (by simp [Op.operands]; exact ⟨p.1, by simpa using hp⟩)
      rw [this]
    | call c =>
      obtain ⟨cal, args, ts⟩ := c
      have ha : ∀ x ∈ args.toList, e x = e' x := fun x hx => h x (by cases cal <;> simp [Op.operands, Call.operands] <;> first | exact .inr (by simpa using hx) | simpa using hx)
      cases cal with
      | value f => rfl
      | invoke a b => rfl
      | builtin b =>
        cases b <;> try rfl
        all_goals
          simp only
          split
          · rename_i heq1
            first
            | (rw [ha _ (by rw [heq1]; simp), ha _ (by rw [heq1]; simp)])
            | (rw [ha _ (by rw [heq1]; simp)])
          · rfl
    | convert s d x => simp only; rw [h x (by simp [Op.operands])]
    | load t a => simp only; rw [h a (by simp [Op.operands])]
    | store t a x => simp only; rw [h a (by simp [Op.operands])]
    | lookup t x k ok => simp only; rw [h x (by simp [Op.operands])]
    | mapUpdate t x k v => simp only; rw [h x (by simp [Op.operands])]
    | insert t x k v => simp only; rw [h x (by simp [Op.operands])]
    | makeMap t r => cases r <;> rfl
    | _ => rfl
theorem StepV_congr {o : Oper} {env env' : Env} {m : Mem} {v : V} {m' : Mem} (h : ∀ x ∈ o.op.operands, evO env x = evO env' x) : StepV P o env m v m' ↔ StepV P o env' m v m' := by
  unfold StepV
  rw [calleeV_congr h, execD_congr h]
theorem LitC_congr {o : Oper} {env env' : Env} {m : Mem} {v : V} {m' : Mem} {inf : Info} (h : ∀ x ∈ o.op.operands, evO env x = evO env' x) (hl : LitC P o env m v m' inf) : LitC P o env' m v m' inf := by
  obtain ⟨t, n, ps, e, sz, es, h1, h2, h3, h4⟩ := hl
  have hps : ∀ x ∈ (ps.toList.map (·.2)), evO env x = evO env' x := fun x hx => h x (by rw [h1]; simpa [Op.operands] using hx)
  have e1 : (ps.toList.map fun p => evO env p.2) = (ps.toList.map fun p => evO env' p.2) := List.map_congr_left fun p hp => hps p.2 (List.mem_map.2 ⟨p, hp, rfl⟩)
  exact ⟨t, n, ps, e, sz, es, h1, by rw [← e1]; exact h2, by rw [← pairs_congr hps]; exact h3, h4⟩
theorem StepI_congr {o : Oper} {env env' : Env} {m : Mem} {v : V} {m' : Mem} {inf : Info} (h : ∀ x ∈ o.op.operands, evO env x = evO env' x) : StepI P o env m v m' inf ↔ StepI P o env' m v m' inf := by
  unfold StepI QuietC
  rw [StepV_congr h, calleeV_congr h, infoD_congr h]
  exact or_congr Iff.rfl (or_congr Iff.rfl ⟨LitC_congr h, LitC_congr fun x hx => (h x hx).symm⟩)
theorem StepI.loc {o : Oper} {env : Env} {v : V} {m m' : Mem} {inf : Info} (h : StepI P o env m v m' inf) (hb : (inf.rd ++ inf.wr).all (fun n => Nat.blt n m.length) = true) :
    Loc (fun m v m' => StepI P o env m v m' inf) inf.rd inf.wr inf.al m v m' := by
  rcases h with ⟨h1, h2⟩ | ⟨f, vs, rd, h1, h2, rfl, rfl, h3⟩ | ⟨t, n, ps, e, sz, es, h1, h2, h3, h4, h5, rfl, rfl, rfl⟩
  · obtain ⟨a1, a2, a3, a4⟩ := h1.loc h2 hb
    refine ⟨a1, a2, a3, fun m2 k1 k2 => ?_⟩
    obtain ⟨m2', b1, b2⟩ := a4 m2 k1 k2
    exact ⟨m2', .inl b1, b2⟩
  · refine Loc.pure fun m2 hm2 => .inr (.inl ⟨f, vs, rd, h1, h2, rfl, rfl, fun m3 hm3 => h3 m3 fun n hn => (hm3 n hn).trans (hm2 n hn)⟩)
  · exact Loc.pure fun m2 _ => .inr (.inr ⟨t, n, ps, e, sz, es, h1, h2, h3, h4, h5, rfl, rfl, rfl⟩)
theorem wantD_put {o : Oper} {env : Env} {d : Option Nat} {v : V} (h : ∀ k, d = some k → k ∉ o.looksAt all) : wantD all (put env d v) o = wantD all env o := by
  unfold wantD
  split
  · rfl
  · rename_i j want hg
    split
    · rename_i t ht
      have : put env d v t = env t := put_look fun k hk e => h k hk (by subst e; simp [Oper.looksAt, hg, ht])
      rw [this]
    · rfl
theorem operands_put {o : Oper} {env : Env} {d : Option Nat} {v : V} (h : ∀ k, d = some k → k ∉ o.looksAt all) : ∀ x ∈ o.op.operands, evO (put env d v) x = evO env x :=
  fun x hx => evO_put fun k hk e => h k hk (by subst e; exact List.mem_append_left _ (List.mem_filterMap.2 ⟨.tmp k, by simpa using hx, rfl⟩))
theorem GStep_put {o : Oper} {inf : Info} {env : Env} {m : Mem} {v : V} {m' : Mem} {d : Option Nat} {u : V} (h : ∀ k, d = some k → k ∉ o.looksAt all) :
    GStep P all o inf (put env d u) m v m' ↔ GStep P all o inf env m v m' := by
  unfold GStep
  rw [wantD_put h]
  have ho := operands_put (env := env) (v := u) h
  split
  · exact Iff.rfl
  · exact Iff.rfl
  · rw [StepI_congr ho, panicV_congr ho]
theorem GStep.loc {o : Oper} {inf : Info} {env : Env} {m : Mem} {v : V} {m' : Mem} (h : GStep P all o inf env m v m') :
    Loc (fun m v m' => GStep P all o inf env m v m') inf.rd inf.wr inf.al m v m' ∧ (inf.rd ++ inf.wr).all (fun n => Nat.blt n m.length) = true := by
  have h0 := h
  unfold GStep at h
  split at h
  · exact h.elim
  · rename_i hw
    obtain ⟨rfl, rfl, rfl⟩ := h
    refine ⟨Loc.pure fun m2 _ => ?_, by simp⟩
    unfold GStep
    rw [hw]
    exact ⟨rfl, rfl, rfl⟩
  · rename_i hw
    obtain ⟨h1, h2, h3, h4⟩ := h
    refine ⟨?_, h4⟩
    obtain ⟨a1, a2, a3, a4⟩ := h1.loc h4
    refine ⟨a1, a2, a3, fun m2 k1 k2 => ?_⟩
    obtain ⟨m2', b1, b2⟩ := a4 m2 k1 k2
    refine ⟨m2', ?_, b2⟩
    unfold GStep
    rw [hw]
    refine ⟨b1, h2, trivial, ?_⟩
    simp only [List.all_eq_true, Nat.blt_eq, List.mem_append] at h4 ⊢
    intro n hn
    have := k1 n hn
    rw [List.getElem?_eq_getElem (h4 n hn)] at this
    exact (List.getElem?_eq_some_iff.1 this).1
/-- All that comes ahead of what is done is done. -/
def closedL (all : Array Oper) (listed : Array Bool) : Prop := ∀ k ok, all[k]? = some ok → listed.getD k false = true → ∀ e ∈ ok.after, Region.binds .any e = true → listed.getD e.on false = true
theorem getD_ft {listed : Array Bool} {i : Nat} (h : listed.getD i false = true) : listed.getD i true = true := by
  rcases Nat.lt_or_ge i listed.size with h' | h'
  · simp [h'] at h ⊢; exact h
  · simp [Array.getElem?_eq_none h'] at h
theorem closedL_ready {listed : Array Bool} (h : closedL all listed) {j : Nat} (hj : j ∈ Region.ready .any all listed) : closedL all (listed.setIfInBounds j true) := by
  obtain ⟨hun, oj, hoj, hall⟩ := mem_ready.1 hj
  have hsz : j < listed.size := by
    rcases Nat.lt_or_ge j listed.size with h' | h'
    · exact h'
    · simp [Array.getElem?_eq_none h'] at hun
  intro k ok hok hk e he hb
  by_cases hek : j = e.on
  · rw [← hek]
    simp [hsz]
  · rw [getD_set_ne false hek]
    by_cases hjk : j = k
    · subst hjk
      rw [hoj] at hok; cases hok
      exact hall e he hb
    · rw [getD_set_ne false hjk] at hk
      exact h k ok hok hk e he hb
theorem upsT_listed {listed : Array Bool} (h : closedL all listed) : ∀ (n : Nat) (todo seen : List Nat), (∀ i ∈ todo, listed.getD i false = true) → (∀ i ∈ seen, listed.getD i false = true) → ∀ i ∈ upsT all n todo seen, listed.getD i false = true
  | 0, _, seen, _, hs, i, hi => hs i hi
  | _ + 1, [], seen, _, hs, i, hi => hs i hi
  | n + 1, k :: todo, seen, ht, hs, i, hi => by
    simp only [upsT] at hi
    cases hc : seen.contains k with
    | true =>
      rw [hc] at hi
      exact upsT_listed h n todo seen (fun i hi => ht i (by simp [hi])) hs i hi
    | false =>
      rw [hc] at hi
      refine upsT_listed h n _ _ (fun j hj => ?_) (fun j hj => ?_) i hi
      · rcases List.mem_append.1 hj with hj | hj
        · cases ho : all[k]? with
          | none => rw [ho] at hj; cases hj
          | some o =>
            rw [ho] at hj
            simp only [aheadO, List.mem_map, List.mem_filter] at hj
            obtain ⟨e, ⟨he, hb⟩, rfl⟩ := hj
            exact h k o ho (ht k (by simp)) e (by simpa using he) hb
        · exact ht j (by simp [hj])
      · rcases List.mem_cons.1 hj with rfl | hj
        · exact ht j (by simp)
        · exact hs j hj
theorem waits_listed {listed : Array Bool} (h : closedL all listed) {i : Nat} (o : Oper) (ho : ∀ e ∈ o.after, Region.binds .any e = true → listed.getD e.on false = true) (hw : waits all o i = true) : listed.getD i false = true := by
  have ha : ∀ k ∈ aheadO o, listed.getD k false = true := fun k hk => by
    simp only [aheadO, List.mem_map, List.mem_filter] at hk
    obtain ⟨e, ⟨he, hb⟩, rfl⟩ := hk
    exact ho e (by simpa using he) hb
  unfold waits at hw
  rw [Bool.or_eq_true] at hw
  rcases hw with hw | hw
  · exact ha i (by simpa using hw)
  · exact upsT_listed h 600 (aheadO o) [] ha (fun j hj => absurd hj (by simp)) i (by simpa using hw)
/-- An operation that may come up now may be taken first. -/
theorem anyA_first {X : Nat → Env → Prop} (hX : Keen all X) {fps : Nat → Info} {K : Env → Mem → Prop} {i : Nat} {oi : Oper} (hi : all[i]? = some oi) :
    ∀ (fuel : Nat) (listed : Array Bool) (env : Env) (m : Mem) (v : V) (mi : Mem),
      (∀ j oj, all[j]? = some oj → j ≠ i → listed.getD j true = false → (∀ e ∈ oj.after, Region.binds .any e = true → e.on ≠ i) → oi.apart all oj = true) →
      (∀ j oj, all[j]? = some oj → j ≠ i → listed.getD j true = false → waits all oj i = false → indep (fps i) m.length (fps j) = true) → closedL all listed →
      i ∈ Region.ready .any all listed → GStep P all oi (fps i) env m v mi ∧ X i env →
      anyA P all X fps K fuel (listed.setIfInBounds i true) (put env oi.dst v) mi → anyA P all X fps K (fuel + 1) listed env m := by
  intro fuel
  induction fuel with
  | zero =>
    intro listed env m v mi _ _ _ hr hg H
    refine ⟨fun h => (by rw [h] at hr; cases hr), fun j hj => ?_⟩
    by_cases hji : j = i
    · subst hji; exact ⟨oi, hi, v, mi, hg, H⟩
    · have := ready_mono hj hji
      rw [H.1] at this
      cases this
  | succ fuel ih =>
    intro listed env m v mi hfree hind hcl hr hg H
    refine ⟨fun h => (by rw [h] at hr; cases hr), fun j hj => ?_⟩
    by_cases hji : j = i
    · subst hji; exact ⟨oi, hi, v, mi, hg, H⟩
    · obtain ⟨oj, hoj, vj, mij, hgj, H'⟩ := H.2 j (ready_mono hj hji)
      obtain ⟨hjun, oj', hoj', hall⟩ := mem_ready.1 hj
      rw [hoj] at hoj'; cases hoj'
      have hnot : ∀ e ∈ oj.after, Region.binds .any e = true → e.on ≠ i := fun e he hb heq => by
        have h1 := hall e he hb
        have h0 := (mem_ready.1 hr).1
        rw [heq] at h1
        rcases Nat.lt_or_ge i listed.size with h' | h'
        · simp [h'] at h0 h1; rw [h0] at h1; cases h1
        · simp [Array.getElem?_eq_none h'] at h1
      obtain ⟨h1, h2, h3⟩ := Oper.apart_spec (hfree j oj hoj hji hjun hnot)
      have hxj := (hX j oj hoj env oi.dst v h1).1 hgj.2
      have hgj' := (GStep_put (u := v) h1).1 hgj.1
      have hin := hind j oj hoj hji hjun (by
        cases hw : waits all oj i with
        | false => rfl
        | true =>
          have := getD_ft (waits_listed hcl oj hall hw)
          rw [(mem_ready.1 hr).1] at this
          cases this)
      have hxi := (hX i oi hi env oj.dst vj h3).2 hg.2
      obtain ⟨li, bi⟩ := hg.1.loc
      obtain ⟨lj, bj⟩ := hgj'.loc
      obtain ⟨mj, sj, si, _⟩ := li.commute lj bi bj hin
      have hun : ∀ k, k ≠ i → (listed.setIfInBounds j true).getD k true = false → listed.getD k true = false := fun k hki hk => by
        by_cases hjk : j = k
        · subst hjk; exact hjun
        · rwa [getD_set_ne true hjk] at hk
      refine ⟨oj, hoj, vj, mj, ⟨sj, hxj⟩, ih (listed.setIfInBounds j true) _ mj v mij (fun k ok hk hki hk' hno => hfree k ok hk hki (hun k hki hk') hno) (fun k ok hk hki hk' hno => ?_) (closedL_ready hcl hj) (ready_mono hr (Ne.symm hji)) ⟨(GStep_put h3).2 si, hxi⟩ ?_⟩
      · have h4 := hind k ok hk hki (hun k hki hk') hno
        -- the length counts only where new blocks are made
        have hal : (fps i).al = true → mj.length = m.length := by
          intro ha
          have : (fps j).al = false := by
            unfold indep at hin
            simp only [Bool.and_eq_true, Bool.not_eq_true', Bool.and_eq_false_iff] at hin
            rcases hin.2.2.1 with h | h
            · rw [ha] at h; cases h
            · exact h
          exact sj.loc.1.noal this
        unfold indep at h4 ⊢
        cases ha : (fps i).al with
        | false => simpa [ha] using h4
        | true => rw [hal ha]; simpa [ha] using h4
      · rw [Array.setIfInBounds_comm _ _ hji, put_comm (fun k hk e => h2 k e hk)]
        exact H'
theorem anyA_congr {X : Nat → Env → Prop} {fps fps' : Nat → Info} {K : Env → Mem → Prop} : ∀ (fuel : Nat) (listed : Array Bool) (env : Env) (m : Mem), (∀ j, listed.getD j true = false → fps j = fps' j) → anyA P all X fps K fuel listed env m → anyA P all X fps' K fuel listed env m
  | 0, _, _, _, _, h => h
  | fuel + 1, listed, env, m, hf, h => ⟨h.1, fun i hi => by
    obtain ⟨o, ho, v, m', hg, hr⟩ := h.2 i hi
    refine ⟨o, ho, v, m', by rw [← hf i (mem_ready.1 hi).1]; exact hg, anyA_congr fuel _ _ _ (fun j hj => ?_) hr⟩
    by_cases hij : i = j
    · subst hij
      exact hf i (mem_ready.1 hi).1
    · rw [getD_set_ne true hij] at hj
      exact hf j hj⟩
theorem lexA {X : Nat → Env → Prop} (hX : Keen all X) {K : Env → Mem → Prop} (hs : Region.noSelect all = true) : ∀ (l : List Oper) (k : Nat) (listed : Array Bool) (acc : List (Nat × Info × Nat)) (env : Env) (m : Mem), (∀ j, l[j]? = all[k + j]?) → (∀ j, j < k → listed.getD j true = true) → closedL all listed →
    Region.lexFrom .any all l.length k listed = true → runDrawnX P all X K k acc l env m →
    ∃ fps : Nat → Info, (∀ x ∈ acc, ∀ j oj, k ≤ j → all[j]? = some oj → waits all oj x.1 = true ∨ indep x.2.1 x.2.2 (fps j) = true) ∧ anyA P all X fps K l.length listed env m
  | [], k, listed, acc, env, m, hl, _, _, hB, h => by
    refine ⟨fun _ => ⟨[], [], false⟩, fun x _ j oj hj ho => ?_, by simpa [Region.lexFrom] using hB, h⟩
    have := hl (j - k)
    rw [show k + (j - k) = j by omega, ho] at this
    simp at this
  | o :: l, k, listed, acc, env, m, hl, hls, hcl, hB, h => by
    have h0 : all[k]? = some o := by simpa using (hl 0).symm
    simp only [List.length_cons, Region.lexFrom, Bool.and_eq_true] at hB
    obtain ⟨⟨hr, hf⟩, hB'⟩ := hB
    have hr' : k ∈ Region.ready .any all listed := by simpa using hr
    have hcl' := closedL_ready hcl hr'
    have hkun := (mem_ready.1 hr').1
    have hksz : k < listed.size := by
      rcases Nat.lt_or_ge k listed.size with h' | h'
      · exact h'
      · simp [Array.getElem?_eq_none h'] at hkun
    have hl' : ∀ j, l[j]? = all[k + 1 + j]? := fun j => by have := hl (j + 1); simpa [Nat.add_assoc, Nat.add_comm 1 j] using this
    have hls' : ∀ j, j < k + 1 → (listed.setIfInBounds k true).getD j true = true := fun j hj => by
      by_cases hkj : k = j
      · subst hkj; simp [hksz]
      · rw [getD_set_ne true hkj]; exact hls j (by omega)
    have hself : (listed.setIfInBounds k true).getD k true = true := hls' k (by omega)
    have hgt : ∀ j, j ≠ k → listed.getD j true = false → k + 1 ≤ j := fun j hjk hun => by
      rcases Nat.lt_or_ge j k with h' | h'
      · rw [hls j h'] at hun; cases hun
      · omega
    have hfree := Region.free_spec h0 hf
    simp only [runDrawnX] at h
    obtain ⟨hx0, h⟩ := h
    split at h
    · exact h.elim
    · rename_i hw
      obtain ⟨fps, f1, f2⟩ := lexA hX hs l (k + 1) (listed.setIfInBounds k true) acc _ _ hl' hls' hcl' hB' h
      refine ⟨fun j => if j = k then ⟨[], [], false⟩ else fps j, fun x hx j oj hj ho => ?_, ?_⟩
      · by_cases hjk : j = k
        · right; simp [hjk, indep, disj]
        · simp only [hjk, if_false]; exact f1 x hx j oj (by omega) ho
      · refine anyA_first hX h0 l.length listed env m (.tup []) m hfree (fun j oj ho hjk hun hno => ?_) hcl hr' ?_ (anyA_congr _ _ _ _ (fun j hj => ?_) f2)
        · simp [indep, disj]
        · refine ⟨?_, hx0⟩
          unfold GStep; rw [hw]; simp
        · rw [if_neg]
          rintro rfl
          rw [hself] at hj; cases hj
    · rename_i hw
      obtain ⟨v, m', inf, s1, ⟨s2, s3, s4, s5⟩, s6⟩ := h
      obtain ⟨fps, f1, f2⟩ := lexA hX hs l (k + 1) (listed.setIfInBounds k true) ((k, inf, m.length) :: acc) _ _ hl' hls' hcl' hB' s6
      refine ⟨fun j => if j = k then inf else fps j, fun x hx j oj hj ho => ?_, ?_⟩
      · by_cases hjk : j = k
        · subst hjk
          rw [h0] at ho; cases ho
          simp only [if_true]
          have := List.all_eq_true.1 s5 x hx
          simpa using this
        · simp only [hjk, if_false]; exact f1 x (by simp [hx]) j oj (by omega) ho
      · refine anyA_first hX h0 l.length listed env m v m' hfree (fun j oj ho hjk hun hno => ?_) hcl hr' ?_ (anyA_congr _ _ _ _ (fun j hj => ?_) f2)
        · simp only [if_true, hjk, if_false]
          rcases f1 (k, inf, m.length) (by simp) j oj (hgt j hjk hun) ho with h' | h'
          · rw [hno] at h'; cases h'
          · exact h'
        · simp only [if_true]
          refine ⟨?_, hx0⟩
          unfold GStep; rw [hw]
          exact ⟨s1, s2, s3, s4⟩
        · rw [if_neg]
          rintro rfl
          rw [hself] at hj; cases hj
theorem StepV_sound {ρ : Pl} {I : Nat → Prop} {w : World} {m m' : Mem} (hr : Rep ρ I m w) {a : Act} {env : Env} (he : REnv m.length ρ I w env a) {o : Oper} {v : V} (h : StepV P o env m v m')
    {next : Act → World → Prop} {Q : Exit → Act → World → Prop} (hK : ∀ x ρ' I' w', Rep ρ' I' m' w' → Step ρ I m w ρ' I' m' w' → RV m'.length ρ' I' w' v x → next (a.put o.dst x) w') : o.wp P a w next Q := by
  unfold StepV at h
  split at h
  · rename_i f vs hc
    obtain ⟨h1, h2, h3⟩ := h
    have hcd : callD P f vs m (fun v2 m2 => v2 = v ∧ m2 = m') (fun _ _ => False) := by
      refine .inl ⟨h1, h2, ?_⟩
      rcases h3 with ⟨g1, g2, rfl, g3⟩ | ⟨v1, m1, g1, g2, g3, rfl, rfl⟩
      · refine ⟨_, g3, ?_⟩
        rintro r ⟨m1, rfl⟩
        simp only [CR.val, CR.mem, okRes, backV, g1, g2, Bool.and_self, Bool.true_or, cond_true, and_self]
      · refine ⟨_, g1, ?_⟩
        rintro r rfl
        simp only [CR.val, CR.mem]
        refine ⟨by simp [okRes, g2], ?_⟩
        have : ((rootsV m vs).isEmpty && nf v1) = false := by
          cases hL : (rootsV m vs).isEmpty with
          | false => rfl
          | true =>
            rw [hL] at g3
            simp only [Bool.true_and] at g3 ⊢
            cases hn : nf v1 with
            | false => rfl
            | true => rw [ren_nf _ _ hn, hn] at g3; cases g3
        simp only [backV, this, cond_false, and_self]
    exact callD_sound hr he hc hcd (fun v2 m2 x ρ' I' w' hv r1 r2 r3 => by obtain ⟨rfl, rfl⟩ := hv; exact hK x ρ' I' w' r1 r2 r3) (fun _ _ _ _ _ _ hf => hf.elim)
  · split at h
    · rename_i u m1 hx
      obtain ⟨rfl, rfl⟩ := h
      obtain ⟨x, w', ρ', I', k1, k2, k3, k4⟩ := execD_sound hr (fun x => he.evO x) hx
      unfold Oper.wp
      rw [k1]
      exact hK x ρ' I' w' k2 k3 k4
    · rename_i m1 hx
      obtain ⟨rfl, rfl⟩ := h
      obtain ⟨w', ρ', I', k1, k2, k3⟩ := execD_sound hr (fun x => he.evO x) hx
      unfold Oper.wp
      rw [k1]
      exact hK undef ρ' I' w' k2 k3 (RV_undef _)
    · exact h.elim
theorem Rparts_nf {N' : Nat} {ρ ρ' : Pl} {N : Nat} {I : Nat → Prop} {w : World} : ∀ {ps : List (Nat × V)} {qs : List (Nat × Value)}, nfs (ps.map (·.2)) = true → Rparts N ρ I w ps qs → Rparts N' ρ' I w ps qs
  | [], [], _, _ => by simp [Rparts]
  | [], _ :: _, _, h => by simp [Rparts] at h
  | _ :: _, [], _, h => by simp [Rparts] at h
  | (i, v) :: r, (j, x) :: s, hn, h => by
    simp only [List.map_cons, nfs, Bool.and_eq_true] at hn
    simp only [Rparts] at h ⊢
    exact ⟨h.1, RV_nf _ _ hn.1 h.2.1, Rparts_nf hn.2 h.2.2⟩
/-- Such a literal, at the machine. -/
theorem LitC_sound {ρ : Pl} {I : Nat → Prop} {w : World} {m m' : Mem} (hr : Rep ρ I m w) {a : Act} {env : Env} (he : REnv m.length ρ I w env a) {o : Oper} {v : V} {inf : Info} (h : LitC P o env m v m' inf) :
    ∃ x w' I', (execOp a.eval o).run P w = .ok (.value x) w' ∧ Rep ρ I' m' w' ∧ Step ρ I m w ρ I' m' w' ∧ RV m'.length ρ I' w' v x := by
  obtain ⟨t, n, ps, e, sz, es, h1, h2, h3, h4, h5, rfl, rfl, rfl⟩ := h
  have hps : nfs ((ps.toList.map fun p => (p.1, evO env p.2)).map (·.2)) = true := by rw [List.map_map]; exact h2
  have hp : Rparts m'.length ρ I w (ps.toList.map fun p => (p.1, evO env p.2)) (ps.map fun p => (p.1, a.eval p.2)).toList := by
    rw [Array.toList_map]; exact Rparts_map (fun x => he.evO x) _
  have r0 : Rep (fun _ => (0, 0)) I [] w := ⟨fun n b h => by simp at h, fun n h => by simp [live] at h, fun n _ h => by simp [live] at h, hr.ilt⟩
  obtain ⟨x, w', ρ1, I1, k1, k2, k3, k4⟩ := bsliceV_sound (P := P) r0 (Rparts_nf (N' := ([] : Mem).length) (ρ' := fun _ => (0, 0)) hps hp) h3
  have hnoOwn : ∀ b, ¬ Own (fun _ => (0, 0)) ([] : Mem) b := fun b ⟨n, h, _⟩ => by simp [live] at h
  have hfr : ∀ b : Nat, b < w.heap.size → w'.heap[b]? = w.heap[b]? := fun b hb => k3.frame b hb (hnoOwn b)
  have hlive : live [B.row e sz es] 0 := ⟨_, rfl, rfl⟩
  have hb0 : w.heap.size ≤ (ρ1 0).1 := by
    rcases k3.own _ ⟨0, hlive, rfl⟩ with h | h
    · exact h
    · exact absurd h (hnoOwn _)
  obtain ⟨c, g1, g2, g3⟩ := k2.blk 0 _ rfl
  have hlt : (ρ1 0).1 < w'.heap.size := (Array.getElem?_eq_some_iff.1 g1).1
  have hI1 : ∀ b, I1 b → I b ∨ w.heap.size ≤ b := fun b hb => by
    rcases k3.iNew b hb with h | h | h
    · exact .inl h
    · exact .inr h
    · exact absurd h (hnoOwn b)
  have hk : Keeps m'.length ρ I w m'.length ρ (fun b => I1 b ∨ b = (ρ1 0).1) w' := ⟨Nat.le_refl _, fun _ _ => rfl, fun b h => .inl (k3.iSub b h), fun b hb => hfr b (hr.ilt b hb), k3.wle.cells⟩
  refine ⟨x, w', fun b => I1 b ∨ b = (ρ1 0).1, ?_, ⟨fun k b hb => ?_, fun k hk' => ?_, hr.inj, fun b hb => ?_⟩, ⟨Nat.le_refl _, fun _ _ => rfl, fun _ _ h => h, fun b h => .inl (k3.iSub b h), fun b hb => ?_, fun b hb => .inr hb,
    ⟨k3.wle.os, k3.wle.tape, k3.wle.output, k3.wle.size, fun b hb => hfr b (hr.ilt b hb), k3.wle.cells⟩, fun b hb _ => hfr b hb⟩, ?_⟩
  · obtain ⟨dst, op, ty, pos, af, gd⟩ := o
    simp only at h1
    subst h1
    simp [execOp, k1]
  · by_cases hl : b.live = true
    · exact (hr.blk k b hb).keep hk (hfr _ ((hr.blk k b hb).lt hl))
    · cases b with
      | dead => trivial
      | _ => exact absurd rfl hl
  · rintro (h | h)
    · rcases hI1 _ h with h | h
      · exact hr.notI k hk' h
      · have := hr.live_lt hk'
        omega
    · have := hr.live_lt hk'
      omega
  · rcases hb with hb | rfl
    · exact k2.ilt b hb
    · exact hlt
  · rcases hb with hb | rfl
    · exact (hI1 b hb).imp id .inl
    · exact .inr (.inl hb0)
  · simp only [RV] at k4 ⊢
    obtain ⟨q1, o1, cap, rfl, q2, q3, q4⟩ := k4
    subst h4
    refine ⟨_, cap, rfl, q2.1, ?_⟩
    rcases q3 with q3 | q3
    · left
      have : es.length = 0 := by omega
      exact List.eq_nil_of_length_eq_zero this
    · right
      refine ⟨(ρ1 0).1, o1, c, _, _, rfl, .inr rfl, g1, ?_⟩
      have g4 : Rcc m'.length ρ I1 w' es c (ρ1 0).2 sz := Rcc_nf _ _ _ _ h5 g3
      have g5 : Rcc m'.length ρ (fun b => I1 b ∨ b = (ρ1 0).1) w' es c (ρ1 0).2 sz := Rcc.keep ⟨Nat.le_refl _, fun _ _ => rfl, fun _ h => .inl h, fun _ _ => rfl, fun _ c _ h => ⟨c, h, rfl⟩⟩ _ _ _ _ g4
      rw [q3]
      exact ⟨by simpa using g5, Uf.none _ _⟩
theorem StepI_sound {ρ : Pl} {I : Nat → Prop} {w : World} {m m' : Mem} (hr : Rep ρ I m w) {a : Act} {env : Env} (he : REnv m.length ρ I w env a) {o : Oper} {v : V} {inf : Info} (h : StepI P o env m v m' inf)
    {next : Act → World → Prop} {Q : Exit → Act → World → Prop} (hK : ∀ x ρ' I' w', Rep ρ' I' m' w' → Step ρ I m w ρ' I' m' w' → RV m'.length ρ' I' w' v x → next (a.put o.dst x) w') : o.wp P a w next Q := by
  rcases h with ⟨h, _⟩ | ⟨f, vs, rd, h1, h2, rfl, rfl, h3⟩ | h
  · exact StepV_sound hr he h hK
  · exact callD_sound hr he h1 (K := fun v2 m2 => v2 = v ∧ m2 = m') (Kp := fun _ _ => False) (.inr ⟨h2, _, h3 m' fun _ _ => rfl, by rintro r rfl; exact ⟨rfl, rfl⟩⟩)
      (fun v2 m2 x ρ' I' w' hv r1 r2 r3 => by obtain ⟨rfl, rfl⟩ := hv; exact hK x ρ' I' w' r1 r2 r3) (fun _ _ _ _ _ _ hf => hf.elim)
  · obtain ⟨x, w', I', k1, k2, k3, k4⟩ := LitC_sound hr he h
    unfold Oper.wp
    rw [k1]
    exact hK x ρ I' w' k2 k3 k4
theorem anyA_sound {X : Nat → Env → Prop} {nt : Nat} (hd : dstsOk nt all = true) {fps : Nat → Info} {Q : Exit → Act → World → Prop} {ds : List Deferred} (ρ0 : Pl) (I0 : Nat → Prop) (m0 : Mem) (w0 : World) (K : Env → Mem → Prop)
    (hK : ∀ env m a ρ I w, K env m → Rep ρ I m w → REnv m.length ρ I w env a → a.tmps.size = nt → a.defers = ds → Step ρ0 I0 m0 w0 ρ I m w → Q .normal a w) :
    ∀ (fuel : Nat) (listed : Array Bool) (env : Env) (m : Mem) (a : Act) (ρ : Pl) (I : Nat → Prop) (w : World), anyA P all X fps K fuel listed env m → Rep ρ I m w → REnv m.length ρ I w env a → a.tmps.size = nt → a.defers = ds →
      Step ρ0 I0 m0 w0 ρ I m w → wpAny P .any all Q fuel listed a w
  | 0, _, env, m, a, ρ, I, w, h, hr, he, hs, hds, hst => ⟨h.1, hK env m a ρ I w h.2 hr he hs hds hst⟩
  | fuel + 1, listed, env, m, a, ρ, I, w, h, hr, he, hs, hds, hst => by
    refine ⟨fun h0 => hK env m a ρ I w (h.1 h0) hr he hs hds hst, fun i hi => ?_⟩
    obtain ⟨o, ho, v, m', ⟨hg, _⟩, hrest⟩ := h.2 i hi
    have hmem : o ∈ all.toList := by rw [← Array.getElem?_toList] at ho; exact List.mem_of_getElem? ho
    have hdo := dstsOk_spec hd hmem
    have hall : ∀ (i : Nat) (x : Oper) d, all[i]? = some x → x.dst = some d → d < a.tmps.size := fun i x d h1 h2 => by
      rw [hs]; exact dstsOk_spec hd (by rw [← Array.getElem?_toList] at h1; exact List.mem_of_getElem? h1) d h2
    have hput : ∀ x, (a.put o.dst x).tmps.size = nt ∧ (a.put o.dst x).defers = ds := by
      intro x
      unfold Act.put
      cases o.dst <;> simp [hs, hds]
    unfold wpOp
    simp only [ho]
    unfold GStep at hg
    split at hg
    · exact hg.elim
    · rename_i hw
      have hwant := wantD_sound he hw hall
      rw [if_neg (by rw [hwant]; exact Bool.false_ne_true)]
      obtain ⟨rfl, rfl, _⟩ := hg
      exact anyA_sound hd ρ0 I0 m0 w0 K hK fuel _ _ _ _ _ _ _ hrest hr (he.put (RV_undef _) (fun k hk => by rw [hs]; exact hdo k hk)) (hput _).1 (hput _).2 hst
    · rename_i hw
      have hwant := wantD_sound he hw hall
      rw [if_pos hwant]
      refine .inl (StepI_sound hr he hg.1 fun x ρ' I' w' r1 r2 r3 => ?_)
      exact anyA_sound hd ρ0 I0 m0 w0 K hK fuel _ _ _ _ _ _ _ hrest r1 ((he.keep r2.keeps).put r3 (fun k hk => by rw [hs]; exact hdo k hk)) (hput _).1 (hput _).2 (hst.trans r2)
theorem drawn_sound {nt : Nat} {X : Prop} (hd : dstsOk nt all = true) (hB : Region.lexB .any all = true) {Q : Exit → Act → World → Prop} {ds : List Deferred} (K : Env → Mem → Prop)
    {env : Env} {m : Mem} {a : Act} {ρ : Pl} {I : Nat → Prop} {w : World} (h : runDrawn P all K 0 [] all.toList env m) (hr : Rep ρ I m w) (he : REnv m.length ρ I w env a) (hs : a.tmps.size = nt) (hds : a.defers = ds)
    (hK : ∀ env m' a ρ' I' w', K env m' → Rep ρ' I' m' w' → REnv m'.length ρ' I' w' env a → a.tmps.size = nt → a.defers = ds → Step ρ I m w ρ' I' m' w' → Q .normal a w') :
    (wpAny P .any all Q all.size (Array.replicate all.size false) a w.drew → X) → X := by
  intro hWP
  simp only [Region.lexB, Bool.and_eq_true] at hB
  refine hWP ?_
  obtain ⟨fps, _, hA⟩ := lexA (X := fun _ _ => True) (fun _ _ _ _ _ _ _ => Iff.rfl) hB.1 all.toList 0 (Array.replicate all.size false) [] env m (by simp) (fun j hj => by omega) (fun k ok hk hkl => by
    have : k < all.size := (Array.getElem?_eq_some_iff.1 hk).1
    simp [this] at hkl) (by simpa using hB.2) (runDrawn_X _ _ _ _ _ h)
  obtain ⟨r1, r2⟩ := hr.same (Same.drew w)
  have := anyA_sound hd ρ I m w K hK _ _ env m a ρ I w.drew hA r1 (he.keep r2.keeps) hs hds r2
  simpa using this
end
end Go.Proofs.Ytjjenpdjmcmgbaa.Ab
namespace Go.Proofs.Ytjjenpdjmcmgbaa.Ab
open Go
set_option linter.unusedSimpArgs false
set_option linter.unusedVariables false
section
variable {P : Program} {ρ : Pl} {I : Nat → Prop} {w : World} {m : Mem}
/-- A block that nobody owns and nobody reads comes in beside. -/
theorem Rep.beside (hr : Rep ρ I m w) (o : Obj) : Rep ρ I m (w.alloc o) ∧ Step ρ I m w ρ I m (w.alloc o) := by
  have hk : Keeps m.length ρ I w m.length ρ I (w.alloc o) := ⟨Nat.le_refl _, fun _ _ => rfl, fun _ h => h, fun b hb => heap_push_lt w o (hr.ilt b hb),
    fun b c ty hb => ⟨c, by rw [heap_push_lt w o (Array.getElem?_eq_some_iff.1 hb).1]; exact hb, rfl⟩⟩
  refine ⟨⟨fun n b hb => ?_, hr.notI, hr.inj, fun b hb => ?_⟩, ⟨Nat.le_refl _, fun _ _ => rfl, fun _ _ h => h, fun _ h => h, fun _ h => .inl h, fun _ h => .inr h,
    ⟨rfl, rfl, rfl, by simp, hk.imm, hk.cells⟩, fun b hb _ => heap_push_lt w o hb⟩⟩
  · by_cases hl : b.live = true
    · exact (hr.blk n b hb).keep hk (heap_push_lt w o ((hr.blk n b hb).lt hl))
    · cases b with
      | dead => trivial
      | _ => exact absurd rfl hl
  · have := hr.ilt b hb
    simp; omega
/-- Such a block is taken up under a new name. -/
theorem Rep.adopt (hr : Rep ρ I m w) {b ty : Nat} {c : Array Value} {l : List V} (hb : w.heap[b]? = some (.cells c ty (0, 0))) (hI : ¬ I b) (hO : ¬ Own ρ m b) (hl : c.size = l.length) (hc : Rc m.length ρ I w l c 0) :
    Rep (ρ.put m.length (b, 0)) I (m ++ [.var ty l]) w := by
  have hk : Keeps m.length ρ I w (m.length + 1) (ρ.put m.length (b, 0)) I w := ⟨by omega, fun k h => Pl.put_lt ρ _ h, fun _ h => h, fun _ _ => rfl, fun _ c _ h => ⟨c, h, rfl⟩⟩
  have hown : ∀ k, live m k → (ρ k).1 ≠ b := fun k hk e => hO ⟨k, hk, e⟩
  refine ⟨?_, ?_, ?_, hr.ilt⟩
  · intro n c' hc'
    have hlen : (m ++ [B.var ty l]).length = m.length + 1 := by simp
    rw [hlen]
    by_cases hn : n < m.length
    · rw [List.getElem?_append_left hn] at hc'
      rw [Pl.put_lt ρ _ hn]
      exact (hr.blk n c' hc').keep hk rfl
    · have hn' : n = m.length := by
        have := (List.getElem?_eq_some_iff.1 hc').1
        rw [hlen] at this; omega
      subst hn'
      simp at hc'
      subst hc'
      rw [Pl.put_self]
      exact ⟨rfl, c, hb, hl, Rc.keep hk _ _ _ hc⟩
  · intro k h
    rcases live_snoc h with ⟨rfl, _⟩ | h
    · rw [Pl.put_self]; exact hI
    · rw [Pl.put_lt ρ _ (Ab.live_lt h)]; exact hr.notI k h
  · intro k k' h h' e
    rcases live_snoc h with ⟨rfl, _⟩ | h <;> rcases live_snoc h' with ⟨rfl, _⟩ | h'
    · rfl
    · rw [Pl.put_self, Pl.put_lt ρ _ (Ab.live_lt h')] at e
      exact absurd e.symm (hown k' h')
    · rw [Pl.put_self, Pl.put_lt ρ _ (Ab.live_lt h)] at e
      exact absurd e (hown k h)
    · rw [Pl.put_lt ρ _ (Ab.live_lt h), Pl.put_lt ρ _ (Ab.live_lt h')] at e
      exact hr.inj k k' h h' e
theorem Step.adopt {ρ0 : Pl} {I0 : Nat → Prop} {m0 : Mem} {w0 : World} (hst : Step ρ0 I0 m0 w0 ρ I m w) {b ty : Nat} {l : List V} (hb : w0.heap.size ≤ b) :
    Step ρ0 I0 m0 w0 (ρ.put m.length (b, 0)) I (m ++ [.var ty l]) w := by
  have hle := hst.len
  refine ⟨by simp; omega, fun n hn => by rw [Pl.put_lt ρ _ (by omega)]; exact hst.rho n hn, fun n hn h => ?_, hst.iSub, hst.iNew, fun k hk => ?_, hst.wle, hst.frame⟩
  · rcases live_snoc h with ⟨h, _⟩ | h
    · omega
    · exact hst.dead n hn h
  · obtain ⟨n, h, e⟩ := hk
    rcases live_snoc h with ⟨rfl, _⟩ | h
    · rw [Pl.put_self] at e
      left; rw [← e]; exact hb
    · rw [Pl.put_lt ρ _ (Ab.live_lt h)] at e
      exact hst.own k ⟨n, h, e⟩
/-- The region as it is told: the variable is laid where it is written. -/
def noOper : Oper → Oper
  | ⟨_, _, ty, pos, af, gd⟩ => ⟨none, .assign (.const (.bool false)), ty, pos, af, gd⟩
def boxOper (d : Nat) : Oper → Oper
  | ⟨_, .store t _ x, ty, pos, af, gd⟩ => ⟨some d, .box t x, ty, pos, af, gd⟩
  | o => o
def lateO (p s d i : Nat) (o : Oper) : Oper := bif Nat.beq i p then noOper o else bif Nat.beq i s then boxOper d o else o
def lateA (all : Array Oper) (p s d : Nat) : Array Oper := (all.toList.mapIdx fun i o => lateO p s d i o).toArray
theorem lateA_get {all : Array Oper} {p s d i : Nat} : (lateA all p s d)[i]? = (all[i]?).map (lateO p s d i) := by
  unfold lateA
  rw [List.getElem?_toArray, List.getElem?_mapIdx, Array.getElem?_toList]
theorem lateO_after {p s d i : Nat} {o : Oper} : (lateO p s d i o).after = o.after := by
  obtain ⟨ds, op, ty, pos, af, gd⟩ := o
  unfold lateO
  cases Nat.beq i p with
  | true => rfl
  | false =>
    cases Nat.beq i s with
    | false => rfl
    | true => cases op <;> rfl
/-- The value that is written is as large as the variable. -/
def lateX (x : Operand) (s sz : Nat) (i : Nat) (env : Env) : Prop := i = s → (cellsOfV (evO env x)).length = sz
def lateX0 (all : Array Oper) (s sz : Nat) : Nat → Env → Prop := match all[s]? with
  | some ⟨_, .store _ _ x, _, _, _, _⟩ => lateX x s sz
  | _ => fun _ _ => False
/-- Is the variable laid and written so? p: where it is laid; s: where it is written; d: its slot; sz: its size. -/
def lateB1 (P : Program) (p d sz : Nat) : Option Oper → Option Oper → Bool
  | some ⟨some d', .alloc t, _, _, _, none⟩, some ⟨none, .store t' (.tmp d'') x, ty, pos, af, none⟩ =>
      Nat.beq d' d && (Nat.beq d'' d && (Nat.beq t t' && ((aheadO ⟨none, .store t' (.tmp d'') x, ty, pos, af, none⟩).contains p && ((match x with | .tmp k => !Nat.beq k d | _ => true) &&
        match P.info? t with
        | some i => Nat.beq i.size sz && (match i.zero with
          | some z => cellsB (constV z) && Nat.beq (cellsOfV (constV z)).length sz
          | none => false)
        | none => false))))
  | _, _ => false
def lateB2 (all : Array Oper) (p s d : Nat) (j : Nat) (o : Oper) : Bool :=
  Nat.beq j p || (Nat.beq j s || (!(o.looksAt all).contains d && ((match o.guard with | some (k, _) => !Nat.beq k s && !Nat.beq k p | none => true) && (match o.dst with | some k => !Nat.beq k d | none => true))))
def lateB (P : Program) (all : Array Oper) (p s d sz : Nat) : Bool :=
  !Nat.beq p s && (lateB1 P p d sz all[p]? all[s]? && ((List.range all.size).all (fun j => match all[j]? with | some o => lateB2 all p s d j o | none => true) && Region.lexB .any (lateA all p s d)))
structure Late (P : Program) (all : Array Oper) (p s d sz : Nat) (t : TypeId) (x : Operand) (z : Value) : Prop where
  ne : p ≠ s
  atP : ∃ ty pos af, all[p]? = some ⟨some d, .alloc t, ty, pos, af, none⟩
  atS : ∃ ty pos af, all[s]? = some ⟨none, .store t (.tmp d) x, ty, pos, af, none⟩ ∧ p ∈ aheadO ⟨none, .store t (.tmp d) x, ty, pos, af, none⟩
  nx : x ≠ .tmp d
  info : ∃ i, P.info? t = some i ∧ i.size = sz ∧ i.zero = some z
  zb : cellsB (constV z) = true
  zl : (cellsOfV (constV z)).length = sz
  other : ∀ j o, all[j]? = some o → j ≠ p → j ≠ s → d ∉ o.looksAt all ∧ (∀ k b, o.guard = some (k, b) → k ≠ s ∧ k ≠ p) ∧ o.dst ≠ some d
  lex : Region.lexB .any (lateA all p s d) = true
theorem upd_ne' (e : Env) {k t : Nat} (v : V) (h : k ≠ t) : upd e k v t = e t := by
  have : Nat.beq k t = false := by
    cases hb : Nat.beq k t with
    | false => rfl
    | true => exact absurd (Nat.eq_of_beq_eq_true hb) h
  simp [upd, this]
theorem beq_false_ne {a b : Nat} (h : Nat.beq a b = false) : a ≠ b := fun e => by rw [e] at h; simp at h
theorem late_of {all : Array Oper} {p s d sz : Nat} (h : lateB P all p s d sz = true) : ∃ t x z, Late P all p s d sz t x z ∧ lateX0 all s sz = lateX x s sz := by
  unfold lateB at h
  simp only [Bool.and_eq_true, Bool.not_eq_true'] at h
  obtain ⟨h1, h2, h3, h4⟩ := h
  cases hp : all[p]? with
  | none => rw [hp] at h2; simp [lateB1] at h2
  | some op =>
    cases hs : all[s]? with
    | none => rw [hp, hs] at h2; simp [lateB1] at h2
    | some os =>
      rw [hp, hs] at h2
      unfold lateB1 at h2
      split at h2
      · rename_i d' t ty0 pos0 af0 t' d'' x ty pos af e1 e2
        cases e1; cases e2
        simp only [Bool.and_eq_true, Nat.beq_eq] at h2
        obtain ⟨rfl, rfl, rfl, g4, g5, g6⟩ := h2
        split at g6
        · rename_i i hi
          simp only [Bool.and_eq_true, Nat.beq_eq] at g6
          obtain ⟨g7, g8⟩ := g6
          split at g8
          · rename_i z hz
            simp only [Bool.and_eq_true, Nat.beq_eq] at g8
            refine ⟨t, x, z, ⟨beq_false_ne h1, ⟨_, _, _, hp⟩, ⟨_, _, _, hs, by simpa using g4⟩, fun e => ?_, ⟨i, hi, g7, hz⟩, g8.1, g8.2, fun j o ho hjp hjs => ?_, h4⟩, ?_⟩
            · subst e
              simp at g5
            · have hj : j < all.size := (Array.getElem?_eq_some_iff.1 ho).1
              have := List.all_eq_true.1 h3 j (List.mem_range.2 hj)
              rw [ho] at this
              simp only [lateB2, Bool.or_eq_true, Nat.beq_eq, Bool.and_eq_true, Bool.not_eq_true'] at this
              rcases this with this | this | ⟨q1, q2, q3⟩
              · exact absurd this hjp
              · exact absurd this hjs
              · refine ⟨by simpa using q1, fun k b hg => ?_, fun e => ?_⟩
                · rw [hg] at q2
                  simp only [Bool.and_eq_true, Bool.not_eq_true'] at q2
                  exact ⟨beq_false_ne q2.1, beq_false_ne q2.2⟩
                · rw [e] at q3
                  simp at q3
            · unfold lateX0
              rw [hs]
          · cases g8
        · cases g6
      · cases h2
section
variable {all : Array Oper} {p s d sz : Nat} {t : TypeId} {x : Operand} {z : Value}
theorem late_ready (j : Nat) (listed : Array Bool) : j ∈ Region.ready .any (lateA all p s d) listed ↔ j ∈ Region.ready .any all listed := by
  rw [mem_ready, mem_ready]
  constructor
  · rintro ⟨h1, o, h2, h3⟩
    rw [lateA_get] at h2
    rw [Option.map_eq_some_iff] at h2
    obtain ⟨o', h4, rfl⟩ := h2
    rw [lateO_after] at h3
    exact ⟨h1, o', h4, h3⟩
  · rintro ⟨h1, o, h2, h3⟩
    exact ⟨h1, lateO p s d j o, by rw [lateA_get, h2]; rfl, by rw [lateO_after]; exact h3⟩
theorem late_ready_nil (listed : Array Bool) : Region.ready .any (lateA all p s d) listed = [] ↔ Region.ready .any all listed = [] := by
  rw [List.eq_nil_iff_forall_not_mem, List.eq_nil_iff_forall_not_mem]
  exact forall_congr' fun j => not_congr (late_ready j listed)
theorem lateO_other {i : Nat} {o : Oper} (h1 : i ≠ p) (h2 : i ≠ s) : lateO p s d i o = o := by
  have e1 : Nat.beq i p = false := by
    cases hb : Nat.beq i p with
    | false => rfl
    | true => exact absurd (Nat.eq_of_beq_eq_true hb) h1
  have e2 : Nat.beq i s = false := by
    cases hb : Nat.beq i s with
    | false => rfl
    | true => exact absurd (Nat.eq_of_beq_eq_true hb) h2
  simp only [lateO, e1, e2, cond_false]
theorem late_want (hL : Late P all p s d sz t x z) {j : Nat} {o : Oper} (ho : all[j]? = some o) (h1 : j ≠ p) (h2 : j ≠ s) (env : Env) : wantD (lateA all p s d) env o = wantD all env o := by
  unfold wantD
  cases hg : o.guard with
  | none => rfl
  | some g =>
    obtain ⟨k, b⟩ := g
    obtain ⟨g1, g2⟩ := (hL.other j o ho h1 h2).2.1 k b hg
    simp only
    rw [lateA_get]
    cases hk : all[k]? with
    | none => rfl
    | some ok => simp only [Option.map_some, Option.bind_some, lateO_other g2 g1]
/-- How the run stands to what is told. -/
def Ph (P : Program) (p s d : Nat) (t : TypeId) (z : Value) (w0 : World) (listed : Array Bool) (env : Env) (m : Mem) (a : Act) (ρ : Pl) (I : Nat → Prop) (w : World) : Prop :=
  (listed.getD p true = false ∧ listed.getD s true = false ∧ REnv m.length ρ I w env a) ∨
  (listed.getD p true = true ∧ listed.getD s true = false ∧ REnv m.length ρ I w (upd env d .unk) a ∧ ∃ b, a.tmps.getD d undef = .pointer (some ⟨b, 0, none⟩) ∧ w.heap[b]? = some (.cells z.cells t (0, 0)) ∧ ¬ I b ∧ ¬ Own ρ m b ∧ w0.heap.size ≤ b) ∨
  (listed.getD p true = true ∧ listed.getD s true = true ∧ REnv m.length ρ I w env a)
theorem ph_set {listed : Array Bool} {i : Nat} (hsz : listed.size = all.size) (hi : i < all.size) : (listed.setIfInBounds i true).getD i true = true := by
  simp [hsz, hi]
/-- What an operation comes behind stands ahead of it in the text. -/
def Before (all : Array Oper) : Prop := ∀ k o, all[k]? = some o → ∀ e ∈ o.after, Region.binds .any e = true → e.on < k
theorem before_of : ∀ (n k : Nat) (listed : Array Bool), listed.size = all.size → k + n = all.size → (∀ j, j < all.size → (listed.getD j false = true ↔ j < k)) → Region.lexFrom .any all n k listed = true →
    ∀ j o, k ≤ j → all[j]? = some o → ∀ e ∈ o.after, Region.binds .any e = true → e.on < j
  | 0, k, listed, hsz, hn, _, _, j, o, hj, ho, e, he, hb => by
    have := (Array.getElem?_eq_some_iff.1 ho).1
    omega
  | n + 1, k, listed, hsz, hn, hl, h, j, o, hj, ho, e, he, hb => by
    simp only [Region.lexFrom, Bool.and_eq_true] at h
    obtain ⟨⟨h1, _⟩, h3⟩ := h
    by_cases hjk : j = k
    · subst hjk
      obtain ⟨_, o', ho', hall⟩ := mem_ready.1 (by simpa using h1)
      rw [ho] at ho'; cases ho'
      have h4 := hall e he hb
      rcases Nat.lt_or_ge e.on all.size with h5 | h5
      · exact (hl _ h5).1 h4
      · rw [Array.getD, dif_neg (by omega)] at h4
        cases h4
    · refine before_of n (k + 1) (listed.setIfInBounds k true) (by simp [hsz]) (by omega) (fun i hi => ?_) h3 j o (by omega) ho e he hb
      by_cases hik : k = i
      · subst hik
        simp [hsz, hi]
      · rw [getD_set_ne false hik, hl i hi]
        omega
theorem before_lex (h : Region.lexB .any all = true) : Before all := by
  simp only [Region.lexB, Bool.and_eq_true] at h
  exact fun j o ho => before_of all.size 0 (Array.replicate all.size false) (by simp) (by simp) (fun j hj => by simp [hj]) h.2 j o (Nat.zero_le _) ho
theorem all_listed (hb : Before all) {listed : Array Bool} (hsz : listed.size = all.size) (h : Region.ready .any all listed = []) : ∀ k, k < all.size → listed.getD k true = true := by
  intro k
  induction k using Nat.strongRecOn with
  | _ k ih =>
    intro hk
    cases hl : listed.getD k true with
    | true => rfl
    | false =>
      have : k ∈ Region.ready .any all listed := mem_ready.2 ⟨hl, all[k], by simp [hk], fun e he hbe => by
        have h1 := hb k all[k] (by simp [hk]) e he hbe
        have h2 := ih e.on h1 (by omega)
        have h3 : e.on < listed.size := by omega
        simp [h3] at h2 ⊢
        exact h2⟩
      rw [h] at this
      cases this
theorem late_sound (hL : Late P all p s d sz t x z) (hbf : Before all) {nt : Nat} (hd : dstsOk nt all = true) {fps : Nat → Info} {Q : Exit → Act → World → Prop} {ds : List Deferred} (ρ0 : Pl) (I0 : Nat → Prop) (m0 : Mem) (w0 : World) (K : Env → Mem → Prop)
    (hK : ∀ env m a ρ I w, K env m → Rep ρ I m w → REnv m.length ρ I w env a → a.tmps.size = nt → a.defers = ds → Step ρ0 I0 m0 w0 ρ I m w → Q .normal a w) :
    ∀ (fuel : Nat) (listed : Array Bool) (env : Env) (m : Mem) (a : Act) (ρ : Pl) (I : Nat → Prop) (w : World), anyA P (lateA all p s d) (lateX x s sz) fps K fuel listed env m → Rep ρ I m w → Ph P p s d t z w0 listed env m a ρ I w → a.tmps.size = nt → a.defers = ds →
      Step ρ0 I0 m0 w0 ρ I m w → listed.size = all.size → wpAny P .any all Q fuel listed a w := by
  obtain ⟨typ, posp, afp, hatP⟩ := hL.atP
  obtain ⟨tys, poss, afs, hatS, hahead⟩ := hL.atS
  have hpl := (Array.getElem?_eq_some_iff.1 hatP).1
  have hsl := (Array.getElem?_eq_some_iff.1 hatS).1
  have hdn : d < nt := dstsOk_spec hd (by rw [← Array.getElem?_toList] at hatP; exact List.mem_of_getElem? hatP) d rfl
  have fin : ∀ (listed : Array Bool) (env : Env) (m : Mem) (a : Act) (ρ : Pl) (I : Nat → Prop) (w : World), K env m → Region.ready .any all listed = [] → Rep ρ I m w → Ph P p s d t z w0 listed env m a ρ I w → a.tmps.size = nt → a.defers = ds →
      Step ρ0 I0 m0 w0 ρ I m w → listed.size = all.size → Q .normal a w := by
    intro listed env m a ρ I w hk h0 hr hph hs hds hst hsz
    have hls := all_listed hbf hsz h0 s hsl
    rcases hph with ⟨_, h2, _⟩ | ⟨_, h2, _⟩ | ⟨_, _, he⟩
    · rw [hls] at h2; cases h2
    · rw [hls] at h2; cases h2
    · exact hK env m a ρ I w hk hr he hs hds hst
  intro fuel
  induction fuel with
  | zero =>
    intro listed env m a ρ I w h hr hph hs hds hst hsz
    have h0 := (late_ready_nil (p := p) (s := s) (d := d) (all := all) listed).1 h.1
    exact ⟨h0, fin listed env m a ρ I w h.2 h0 hr hph hs hds hst hsz⟩
  | succ fuel ih =>
    intro listed env m a ρ I w h hr hph hs hds hst hsz
    refine ⟨fun h0 => fin listed env m a ρ I w (h.1 ((late_ready_nil listed).2 h0)) h0 hr hph hs hds hst hsz, fun i hi => ?_⟩
    have hsz' : (listed.setIfInBounds i true).size = all.size := by simp [hsz]
    obtain ⟨hiun, oi, hoi, hiall⟩ := mem_ready.1 hi
    have hil := (Array.getElem?_eq_some_iff.1 hoi).1
    obtain ⟨o, ho, v, m', ⟨hg, hx⟩, hrest⟩ := h.2 i ((late_ready i listed).2 hi)
    rw [lateA_get, hoi] at ho
    simp only [Option.map_some, Option.some.injEq] at ho
    have hall : ∀ (i : Nat) (x : Oper) k, all[i]? = some x → x.dst = some k → k < a.tmps.size := fun i x k h1 h2 => by
      rw [hs]; exact dstsOk_spec hd (by rw [← Array.getElem?_toList] at h1; exact List.mem_of_getElem? h1) k h2
    unfold wpOp
    simp only [hoi]
    by_cases hip : i = p
    · -- the variable is laid
      subst hip
      rw [hatP] at hoi
      cases hoi
      have e1 : Nat.beq i i = true := by simp
      simp only [lateO, e1, cond_true, noOper] at ho
      subst ho
      simp only [GStep, wantD, StepI, StepV, calleeV, execD, QuietC, LitC] at hg
      have hg' : v = .bool false ∧ m' = m := by
        rcases hg.1 with hg | ⟨f, vs, rd, hc, _⟩ | ⟨_, _, _, _, _, _, hc, _⟩
        · exact ⟨hg.1.1, hg.1.2⟩
        · cases hc
        · cases hc
      obtain ⟨rfl, rfl⟩ := hg'
      rcases hph with ⟨h1, h2, he⟩ | ⟨h1, _⟩ | ⟨h1, _⟩
      · rw [if_pos (by rfl)]
        refine .inl ?_
        obtain ⟨inf, hi1, hi2, hi3⟩ := hL.info
        have hrun : (execOp a.eval ⟨some d, .alloc t, typ, posp, afp, none⟩).run P w = .ok (.value (.pointer (some ⟨w.heap.size, 0, none⟩))) (w.alloc (.cells z.cells t)) := by
          have g1 : (do pure (.pointer (some (← newVar t z))) : Sem Value).run P w = .ok (.pointer (some ⟨w.heap.size, 0, none⟩)) (w.alloc (.cells z.cells t)) := rfl
          have g2 : (Instr.alloc t true (.tuple #[])).run P w = .ok (.pointer (some ⟨w.heap.size, 0, none⟩)) (w.alloc (.cells z.cells t)) := by
            rw [← g1]
            simp [Instr.alloc, zeroValue, typeInfo, hi1, hi3]
          simp [execOp, g2]
        unfold Oper.wp
        rw [hrun]
        simp only [Oper.upon]
        obtain ⟨r1, r2⟩ := hr.beside (.cells z.cells t)
        have hps : i ≠ s := hL.ne
        refine ih _ _ _ _ ρ I _ hrest r1 (.inr (.inl ⟨ph_set hsz hil, by rw [getD_set_ne true hps]; exact h2, ?_, w.heap.size, ?_, heap_alloc_new w _, fun hI => absurd (hr.ilt _ hI) (Nat.lt_irrefl _), ?_, hst.wle.size⟩)) ?_ ?_ (hst.trans r2) hsz'
        · have h3 : REnv m'.length ρ I (w.alloc (.cells z.cells t)) (put (upd env d .unk) (some d) .unk) (a.put (some d) (.pointer (some ⟨w.heap.size, 0, none⟩))) :=
            REnv.put (fun k => by
              have := (he.keep r2.keeps) k
              simp only [upd]
              cases Nat.beq d k with
              | true => simp [RV]
              | false => exact this) (by simp [RV]) (fun k hk => by cases hk; rw [hs]; exact hdn)
          intro k
          have := h3 k
          simp only [put, upd] at this ⊢
          cases hb : Nat.beq d k with
          | true => simp [RV]
          | false => rw [hb] at this; exact this
        · simp only [Act.put]
          rw [Array.getD, dif_pos (by simp [hs, hdn])]
          simp
        · rintro ⟨n, hn, e⟩
          have := hr.live_lt hn
          omega
        · simp [Act.put, hs]
        · simp [Act.put, hds]
      · rw [hiun] at h1; cases h1
      · rw [hiun] at h1; cases h1
    · by_cases his : i = s
      · -- the variable is written
        subst his
        rw [hatS] at hoi
        cases hoi
        have e0 : Nat.beq i p = false := by
          cases hb : Nat.beq i p with
          | false => rfl
          | true => exact absurd (Nat.eq_of_beq_eq_true hb) hip
        have e1 : Nat.beq i i = true := by simp
        simp only [lateO, e0, e1, cond_true, cond_false, boxOper] at ho
        subst ho
        have hpl2 : listed.getD p true = true := by
          simp only [aheadO, List.mem_map, List.mem_filter] at hahead
          obtain ⟨e, ⟨he, hb⟩, hep⟩ := hahead
          have := hiall e (by simpa using he) hb
          rw [hep] at this
          exact getD_ft this
        rcases hph with ⟨h1, _⟩ | ⟨h1, h2, he, b, hb1, hb2, hb3, hb4, hb5⟩ | ⟨_, h2, _⟩
        · rw [hpl2] at h1; cases h1
        · rw [if_pos (by rfl)]
          refine .inl ?_
          have hlen := hx rfl
          have hg' : cellsB (evO env x) = true ∧ v = .ptr m.length 0 ∧ m' = m ++ [.var t (cellsOfV (evO env x))] := by
            simp only [GStep, wantD, StepI, StepV, calleeV, execD, QuietC, LitC] at hg
            rcases hg.1 with hg | ⟨f, vs, rd, hc, _⟩ | ⟨_, _, _, _, _, _, hc, _⟩
            · have hg := hg.1
              unfold newV at hg
              cases hcb : cellsB (evO env x) with
              | false => rw [hcb] at hg; exact hg.elim
              | true =>
                rw [hcb] at hg
                exact ⟨rfl, hg.1, hg.2⟩
            · cases hc
            · cases hc
          obtain ⟨hcb, rfl, rfl⟩ := hg'
          obtain ⟨z1, z2, z3⟩ := cellsOfV_sound hL.zb (RV_constV m.length ρ I w z)
          have hzs : z.cells.size = sz := by rw [← z2]; exact hL.zl
          have r1 := hr.adopt (l := cellsOfV (constV z)) hb2 hb3 hb4 z2.symm z1
          have r2 : Step ρ0 I0 m0 w0 (ρ.put m.length (b, 0)) I (m ++ [.var t (cellsOfV (constV z))]) w := hst.adopt hb5
          have hk : Keeps m.length ρ I w (m ++ [B.var t (cellsOfV (constV z))]).length (ρ.put m.length (b, 0)) I w := ⟨by simp, fun k h => Pl.put_lt ρ _ h, fun _ h => h, fun _ _ => rfl, fun _ c _ h => ⟨c, h, rfl⟩⟩
          have hevx : evO (upd env d .unk) x = evO env x := by
            cases x with
            | tmp k =>
              have hkd : d ≠ k := fun e => hL.nx (by rw [e])
              exact upd_ne' _ _ hkd
            | _ => rfl
          have hvx : RV (m ++ [B.var t (cellsOfV (constV z))]).length (ρ.put m.length (b, 0)) I w (evO env x) (a.eval x) := by
            have := (he.keep hk).evO x
            rwa [hevx] at this
          have hptr : RV (m ++ [B.var t (cellsOfV (constV z))]).length (ρ.put m.length (b, 0)) I w (.ptr m.length 0) (a.eval (.tmp d)) := by
            simp only [RV, Act.eval]
            refine ⟨by simp, ?_⟩
            rw [Pl.put_self]
            exact hb1
          obtain ⟨inf, hi1, hi2, hi3⟩ := hL.info
          have hstore : storeV P t (m ++ [B.var t (cellsOfV (constV z))]) (.ptr m.length 0) (evO env x) = some (m ++ [B.var t (cellsOfV (evO env x))]) := by
            have e3 : (Nat.beq (cellsOfV (evO env x)).length inf.size && cellsB (evO env x)) = true := by
              rw [hcb, hi2, hlen]; simp
            unfold storeV
            rw [hi1]
            simp only [e3, cond_true]
            rw [show (m ++ [B.var t (cellsOfV (constV z))])[m.length]? = some (B.var t (cellsOfV (constV z))) by simp]
            simp only
            have hzl := hL.zl
            rw [if_pos (by omega), Option.some.injEq, List.set_append_right _ _ (Nat.le_refl _)]
            have hsp : splice (cellsOfV (constV z)) 0 (cellsOfV (evO env x)) = cellsOfV (evO env x) := by simp [splice, hzl, hlen]
            rw [hsp]
            simp
          obtain ⟨w', ρ', I', k1, k2, k3⟩ := storeV_sound (P := P) r1 hptr hvx hstore
          have hrun : (execOp a.eval ⟨none, .store t (.tmp d) x, tys, poss, afs, none⟩).run P w = .ok .skip w' := by
            simp [execOp, k1]
          unfold Oper.wp
          rw [hrun]
          simp only [Oper.upon]
          refine ih _ _ _ _ ρ' I' w' hrest k2 (.inr (.inr ⟨?_, ph_set hsz hil, ?_⟩)) ?_ ?_ (r2.trans k3) hsz'
          · rw [getD_set_ne true (fun e => hip e)]; exact hpl2
          · have he2 := (he.keep hk).keep k3.keeps
            intro k
            simp only [put, upd, Act.put]
            cases hdk : Nat.beq d k with
            | true =>
              have := Nat.eq_of_beq_eq_true hdk
              subst this
              simp only [cond_true]
              have h3 := RV.keep k3.keeps _ _ hptr
              simpa [Act.eval] using h3
            | false =>
              have := he2 k
              simp only [upd, hdk, cond_false] at this
              simpa using this
          · simp [Act.put, hs]
          · simp [Act.put, hds]
        · rw [hiun] at h2; cases h2
      · -- another operation
        rw [lateO_other hip his] at ho
        subst ho
        obtain ⟨q1, q2, q3⟩ := hL.other i oi hoi hip his
        have hgl : ∀ (j : Nat), j ≠ i → (listed.setIfInBounds i true).getD j true = listed.getD j true := fun j hj => getD_set_ne true (fun e => hj e.symm)
        have hdk : ∀ k, (some d : Option Nat) = some k → k ∉ oi.looksAt all := fun k hk => by cases hk; exact q1
        -- one step, whatever is known of the variable's slot
        have go : ∀ (env1 : Env), REnv m.length ρ I w env1 a → wantD all env1 oi = wantD all env oi → (∀ y ∈ oi.op.operands, evO env1 y = evO env y) →
            (∀ (y : V) (vx : Value) (m2 : Mem) (ρ' : Pl) (I' : Nat → Prop) (w' : World), Rep ρ' I' m2 w' → Step ρ I m w ρ' I' m2 w' → RV m2.length ρ' I' w' y vx →
              anyA P (lateA all p s d) (lateX x s sz) fps K fuel (listed.setIfInBounds i true) (put env oi.dst y) m2 →
              REnv m2.length ρ' I' w' (put env1 oi.dst y) (a.put oi.dst vx) → wpAny P .any all Q fuel (listed.setIfInBounds i true) (a.put oi.dst vx) w') →
            (if Region.wanted oi (yielded all a.tmps) = true then oi.wp P a w (wpAny P .any all Q fuel (listed.setIfInBounds i true)) Q ∨ (oi.asks P a w ∧ LetsOut Q) else wpAny P .any all Q fuel (listed.setIfInBounds i true) (a.put oi.dst undef) w) := by
          intro env1 he hw1 hops next
          have hdo : ∀ k, oi.dst = some k → k < a.tmps.size := fun k hk => hall i oi k hoi hk
          unfold GStep at hg
          rw [late_want hL hoi hip his] at hg
          split at hg
          · exact hg.elim
          · rename_i hw
            have hwant := wantD_sound he (hw1.trans hw) hall
            rw [if_neg (by rw [hwant]; exact Bool.false_ne_true)]
            obtain ⟨rfl, rfl, _⟩ := hg
            exact next _ _ _ _ _ _ hr (Step.refl _ _ _ _) (RV_undef _) hrest (he.put (RV_undef _) hdo)
          · rename_i hw
            have hwant := wantD_sound he (hw1.trans hw) hall
            rw [if_pos hwant]
            refine .inl (StepI_sound hr he ((StepI_congr hops).2 hg.1) fun vx ρ' I' w' r1 r2 r3 => ?_)
            exact next _ _ _ _ _ _ r1 r2 r3 hrest ((he.keep r2.keeps).put r3 hdo)
        have hput : ∀ (y : Value), (a.put oi.dst y).tmps.size = nt ∧ (a.put oi.dst y).defers = ds := by
          intro y
          unfold Act.put
          cases oi.dst <;> simp [hs, hds]
        rcases hph with ⟨h1, h2, he⟩ | ⟨h1, h2, he, b, hb1, hb2, hb3, hb4, hb5⟩ | ⟨h1, h2, he⟩
        · refine go env he rfl (fun _ _ => rfl) fun y vx m2 ρ' I' w' r1 r2 r3 hA hE => ?_
          exact ih _ _ _ _ ρ' I' w' hA r1 (.inl ⟨by rw [hgl p (fun e => hip e.symm)]; exact h1, by rw [hgl s (fun e => his e.symm)]; exact h2, hE⟩) (hput _).1 (hput _).2 (hst.trans r2) hsz'
        · refine go (upd env d .unk) he (wantD_put (d := some d) hdk) (operands_put (d := some d) hdk) fun y vx m2 ρ' I' w' r1 r2 r3 hA hE => ?_
          refine ih _ _ _ _ ρ' I' w' hA r1 (.inr (.inl ⟨by rw [hgl p (fun e => hip e.symm)]; exact h1, by rw [hgl s (fun e => his e.symm)]; exact h2, ?_, b, ?_, ?_, ?_, ?_, hb5⟩)) (hput _).1 (hput _).2 (hst.trans r2) hsz'
          · have : put (upd env d .unk) oi.dst y = upd (put env oi.dst y) d .unk := by
              funext k
              cases hod : oi.dst with
              | none => rfl
              | some j =>
                have hjd : j ≠ d := fun e => q3 (by rw [hod, e])
                simp only [put, upd]
                cases h3 : Nat.beq j k <;> cases h4 : Nat.beq d k <;> try rfl
                exact absurd ((Nat.eq_of_beq_eq_true h3).trans (Nat.eq_of_beq_eq_true h4).symm) hjd
            rw [← this]; exact hE
          · rw [← hb1]
            unfold Act.put
            cases hod : oi.dst with
            | none => rfl
            | some j =>
              have hjd : j ≠ d := fun e => q3 (by rw [hod, e])
              simp [Array.getElem?_setIfInBounds_ne hjd]
          · rw [r2.frame b (Array.getElem?_eq_some_iff.1 hb2).1 hb4]; exact hb2
          · intro hI
            rcases r2.iNew b hI with h3 | h3 | h3
            · exact hb3 h3
            · have := (Array.getElem?_eq_some_iff.1 hb2).1; omega
            · exact hb4 h3
          · intro hO
            rcases r2.own b hO with h3 | h3
            · have := (Array.getElem?_eq_some_iff.1 hb2).1; omega
            · exact hb4 h3
        · refine go env he rfl (fun _ _ => rfl) fun y vx m2 ρ' I' w' r1 r2 r3 hA hE => ?_
          exact ih _ _ _ _ ρ' I' w' hA r1 (.inr (.inr ⟨by rw [hgl p (fun e => hip e.symm)]; exact h1, by rw [hgl s (fun e => his e.symm)]; exact h2, hE⟩)) (hput _).1 (hput _).2 (hst.trans r2) hsz'
theorem late_keen (hL : Late P all p s d sz t x z) : Keen (lateA all p s d) (lateX x s sz) := by
  intro i o ho env k u hk
  unfold lateX
  by_cases his : i = s
  · subst his
    obtain ⟨tys, poss, afs, hatS, _⟩ := hL.atS
    rw [lateA_get, hatS] at ho
    have e0 : Nat.beq i p = false := by
      cases hb : Nat.beq i p with
      | false => rfl
      | true => exact absurd (Nat.eq_of_beq_eq_true hb).symm hL.ne
    have e1 : Nat.beq i i = true := by simp
    simp only [Option.map_some, Option.some.injEq, lateO, e0, e1, cond_true, cond_false, boxOper] at ho
    subst ho
    have := operands_put (all := lateA all p i d) (env := env) (d := k) (v := u) hk x (by simp [Op.operands])
    rw [this]
  · constructor <;> intro _ e <;> exact absurd e his
theorem drawn_late {nt : Nat} {X : Prop} (hd : dstsOk nt all = true) (hB : Region.lexB .any all = true) (hl : lateB P all p s d sz = true) {Q : Exit → Act → World → Prop} {ds : List Deferred} (K : Env → Mem → Prop)
    {env : Env} {m : Mem} {a : Act} {ρ : Pl} {I : Nat → Prop} {w : World} (h : runDrawnX P (lateA all p s d) (lateX0 all s sz) K 0 [] (lateA all p s d).toList env m) (hr : Rep ρ I m w) (he : REnv m.length ρ I w env a) (hs : a.tmps.size = nt) (hds : a.defers = ds)
    (hK : ∀ env m' a ρ' I' w', K env m' → Rep ρ' I' m' w' → REnv m'.length ρ' I' w' env a → a.tmps.size = nt → a.defers = ds → Step ρ I m w ρ' I' m' w' → Q .normal a w') :
    (wpAny P .any all Q all.size (Array.replicate all.size false) a w.drew → X) → X := by
  intro hWP
  obtain ⟨t, x, z, hL, hX⟩ := late_of hl
  rw [hX] at h
  have hlx := hL.lex
  simp only [Region.lexB, Bool.and_eq_true] at hlx
  refine hWP ?_
  obtain ⟨fps, _, hA⟩ := lexA (late_keen hL) hlx.1 (lateA all p s d).toList 0 (Array.replicate (lateA all p s d).size false) [] env m (by simp) (fun j hj => by omega) (fun k ok hk hkl => by
    have : k < (lateA all p s d).size := (Array.getElem?_eq_some_iff.1 hk).1
    simp [this] at hkl) (by simpa using hlx.2) h
  obtain ⟨r1, r2⟩ := hr.same (Same.drew w)
  have hsize : (lateA all p s d).size = all.size := by simp [lateA]
  obtain ⟨_, _, _, hatP⟩ := hL.atP
  obtain ⟨_, _, _, hatS, _⟩ := hL.atS
  have hpl := (Array.getElem?_eq_some_iff.1 hatP).1
  have hsl := (Array.getElem?_eq_some_iff.1 hatS).1
  have := late_sound hL (before_lex hB) hd ρ I m w K hK (lateA all p s d).toList.length (Array.replicate all.size false) env m a ρ I w.drew (by rw [hsize] at hA; exact hA) r1 (.inl ⟨by simp [hpl], by simp [hsl], he.keep r2.keeps⟩) hs hds r2 (by simp)
  rw [Array.length_toList, hsize] at this
  simpa using this
end
end
end Go.Proofs.Ytjjenpdjmcmgbaa.Ab
namespace Go.Proofs.Ytjjenpdjmcmgbaa.Ab
open Go
set_option linter.unusedSimpArgs false
set_option linter.unusedVariables false
def quiet (i : Info) : Bool := i.wr.isEmpty && !i.al
/-- A call that panics. -/
def PanV (P : Program) (o : Oper) (env : Env) (m : Mem) (v : V) (m' : Mem) : Prop :=
  match calleeV (evO env) o.op with
  | some (f, vs) => okCall (rootsV m vs) m vs = true ∧ enterable P f = true ∧
      ∃ v1 m1, Snd P f (rens (idx (rootsV m vs)) vs) (view (rootsV m vs) m) (fun r => r = .pan v1 m1) ∧ okRes (rootsV m vs) v1 m1 = true ∧ v = (backV (rootsV m vs) m v1 m1).1 ∧ m' = (backV (rootsV m vs) m v1 m1).2
  | none => False
/-- Comes an operation behind one of these? -/
def behind (o : Oper) (S : List Nat) : Bool := o.after.toList.any fun e => Region.binds .any e && S.contains e.on
/-- What may still run of a region in which a call panics: it turns nothing. -/
def runU (P : Program) (all : Array Oper) (acc : List (Nat × Info × Nat)) : Nat → List Nat → List Oper → Env → Mem → Prop
  | _, _, [], _, _ => True
  | p, S, o :: r, env, m => bif behind o S then runU P all acc (p + 1) (p :: S) r env m else
    match wantD all env o with
    | none => False
    | some false => runU P all acc (p + 1) S r (put env o.dst (.tup [])) m
    | some true => ∃ v inf, StepI P o env m v m inf ∧ fits all o env m v acc inf ∧ quiet inf = true ∧ runU P all acc (p + 1) S r (put env o.dst v) m
/-- A region that comes to a call that panics. -/
def runDrawnP (P : Program) (all : Array Oper) (Kp : V → Mem → Prop) : Nat → List (Nat × Info × Nat) → List Oper → Env → Mem → Prop
  | _, _, [], _, _ => False
  | k, acc, o :: r, env, m =>
    match wantD all env o with
    | none => False
    | some false => runDrawnP P all Kp (k + 1) acc r (put env o.dst (.tup [])) m
    | some true => (∃ v m' inf, StepI P o env m v m' inf ∧ fits all o env m v acc inf ∧ runDrawnP P all Kp (k + 1) ((k, inf, m.length) :: acc) r (put env o.dst v) m') ∨
        (panicV (evO env) o.op = none ∧ acc.all (fun x => waits all o x.1 || quiet x.2.1) = true ∧ runU P all acc (k + 1) [k] r env m ∧ ∃ v m', PanV P o env m v m' ∧ Kp v m')
theorem runDrawnP_mono {P : Program} {all : Array Oper} {K K' : V → Mem → Prop} (hK : ∀ e m, K e m → K' e m) :
    ∀ (l : List Oper) (k : Nat) (acc : List (Nat × Info × Nat)) (env : Env) (m : Mem), runDrawnP P all K k acc l env m → runDrawnP P all K' k acc l env m
  | [], _, _, _, _, h => h
  | o :: r, k, acc, env, m, h => by
    simp only [runDrawnP] at h ⊢
    split at h
    · exact h.elim
    · exact runDrawnP_mono hK r _ _ _ _ h
    · rcases h with ⟨v, m', inf, h1, h2, h3⟩ | ⟨h1, h2, h3, v, m', h4, h5⟩
      · exact .inl ⟨v, m', inf, h1, h2, runDrawnP_mono hK r _ _ _ _ h3⟩
      · exact .inr ⟨h1, h2, h3, v, m', h4, hK _ _ h5⟩
def PanG (P : Program) (all : Array Oper) (o : Oper) (env : Env) (m : Mem) (v : V) (m' : Mem) : Prop := wantD all env o = some true ∧ panicV (evO env) o.op = none ∧ PanV P o env m v m'
/-- Whatever order is picked, the call panics. -/
def anyP (P : Program) (all : Array Oper) (fps : Nat → Info) (Kp : V → Mem → Prop) (pk : Nat) : Nat → Array Bool → Env → Mem → Prop
  | 0, _, _, _ => False
  | fuel + 1, listed, env, m => Region.ready .any all listed ≠ [] ∧
    ∀ i ∈ Region.ready .any all listed, ∃ o, all[i]? = some o ∧
      ((i = pk ∧ ∃ v m', PanG P all o env m v m' ∧ Kp v m') ∨ ∃ v m', GStep P all o (fps i) env m v m' ∧ anyP P all fps Kp pk fuel (listed.setIfInBounds i true) (put env o.dst v) m')
section
variable {P : Program} {all : Array Oper}
theorem PanV_congr {o : Oper} {env env' : Env} {m : Mem} {v : V} {m' : Mem} (h : ∀ x ∈ o.op.operands, evO env x = evO env' x) : PanV P o env m v m' ↔ PanV P o env' m v m' := by
  unfold PanV
  rw [calleeV_congr h]
theorem PanG_put {o : Oper} {env : Env} {m : Mem} {v : V} {m' : Mem} {d : Option Nat} {u : V} (h : ∀ k, d = some k → k ∉ o.looksAt all) : PanG P all o (put env d u) m v m' ↔ PanG P all o env m v m' := by
  unfold PanG
  rw [wantD_put h, panicV_congr (operands_put h), PanV_congr (operands_put h)]
theorem quiet_same {o : Oper} {inf : Info} {env : Env} {m : Mem} {v : V} {m' : Mem} (h : GStep P all o inf env m v m') (hq : quiet inf = true) : m' = m := by
  obtain ⟨l, _⟩ := h.loc
  simp only [quiet, Bool.and_eq_true, List.isEmpty_iff, Bool.not_eq_true'] at hq
  have hlen := l.noal hq.2
  apply List.ext_getElem?
  intro n
  by_cases hn : n < m.length
  · exact l.out n hn (by rw [hq.1]; simp)
  · rw [List.getElem?_eq_none (by omega), List.getElem?_eq_none (by omega)]
theorem anyP_first {fps : Nat → Info} {Kp : V → Mem → Prop} {pk i : Nat} {oi : Oper} (hi : all[i]? = some oi) (hpi : i ≠ pk) :
    ∀ (fuel : Nat) (listed : Array Bool) (env : Env) (m : Mem) (v : V) (mi : Mem),
      (∀ j oj, all[j]? = some oj → j ≠ i → listed.getD j true = false → (∀ e ∈ oj.after, Region.binds .any e = true → e.on ≠ i) → oi.apart all oj = true) →
      (∀ j oj, all[j]? = some oj → j ≠ i → listed.getD j true = false → waits all oj i = false → indep (fps i) m.length (fps j) = true) →
      (∀ o, all[pk]? = some o → waits all o i = false → quiet (fps i) = true) → closedL all listed →
      i ∈ Region.ready .any all listed → GStep P all oi (fps i) env m v mi →
      anyP P all fps Kp pk fuel (listed.setIfInBounds i true) (put env oi.dst v) mi → anyP P all fps Kp pk (fuel + 1) listed env m := by
  intro fuel
  induction fuel with
  | zero => intro _ _ _ _ _ _ _ _ _ _ _ H; exact H.elim
  | succ fuel ih =>
    intro listed env m v mi hfree hind hpq hcl hr hg H
    refine ⟨fun h => (by rw [h] at hr; cases hr), fun j hj => ?_⟩
    by_cases hji : j = i
    · subst hji; exact ⟨oi, hi, .inr ⟨v, mi, hg, H⟩⟩
    · obtain ⟨oj, hoj, hcase⟩ := H.2 j (ready_mono hj hji)
      obtain ⟨hjun, oj', hoj', hall⟩ := mem_ready.1 hj
      rw [hoj] at hoj'; cases hoj'
      have hnot : ∀ e ∈ oj.after, Region.binds .any e = true → e.on ≠ i := fun e he hb heq => by
        have h1 := hall e he hb
        have h0 := (mem_ready.1 hr).1
        rw [heq] at h1
        rcases Nat.lt_or_ge i listed.size with h' | h'
        · simp [h'] at h0 h1; rw [h0] at h1; cases h1
        · simp [Array.getElem?_eq_none h'] at h1
      obtain ⟨h1, h2, h3⟩ := Oper.apart_spec (hfree j oj hoj hji hjun hnot)
      have hw : waits all oj i = false := by
        cases hw : waits all oj i with
        | false => rfl
        | true =>
          have := getD_ft (waits_listed hcl oj hall hw)
          rw [(mem_ready.1 hr).1] at this
          cases this
      rcases hcase with ⟨rfl, vp, mp, hp, hkp⟩ | ⟨vj, mij, hgj, H'⟩
      · have := quiet_same hg (hpq oj hoj hw)
        subst this
        exact ⟨oj, hoj, .inl ⟨rfl, vp, mp, (PanG_put h1).1 hp, hkp⟩⟩
      have hgj' := (GStep_put (u := v) h1).1 hgj
      have hin := hind j oj hoj hji hjun hw
      obtain ⟨li, bi⟩ := hg.loc
      obtain ⟨lj, bj⟩ := hgj'.loc
      obtain ⟨mj, sj, si, _⟩ := li.commute lj bi bj hin
      have hun : ∀ k, k ≠ i → (listed.setIfInBounds j true).getD k true = false → listed.getD k true = false := fun k hki hk => by
        by_cases hjk : j = k
        · subst hjk; exact hjun
        · rwa [getD_set_ne true hjk] at hk
      refine ⟨oj, hoj, .inr ⟨vj, mj, sj, ih (listed.setIfInBounds j true) _ mj v mij (fun k ok hk hki hk' hno => hfree k ok hk hki (hun k hki hk') hno) (fun k ok hk hki hk' hno => ?_) hpq (closedL_ready hcl hj) (ready_mono hr (Ne.symm hji)) ((GStep_put h3).2 si) ?_⟩⟩
      · have h4 := hind k ok hk hki (hun k hki hk') hno
        have hal : (fps i).al = true → mj.length = m.length := by
          intro ha
          have : (fps j).al = false := by
            unfold indep at hin
            simp only [Bool.and_eq_true, Bool.not_eq_true', Bool.and_eq_false_iff] at hin
            rcases hin.2.2.1 with h | h
            · rw [ha] at h; cases h
            · exact h
          exact sj.loc.1.noal this
        unfold indep at h4 ⊢
        cases ha : (fps i).al with
        | false => simpa [ha] using h4
        | true => rw [hal ha]; simpa [ha] using h4
      · rw [Array.setIfInBounds_comm _ _ hji, put_comm (fun k hk e => h2 k e hk)]
        exact H'
theorem anyP_congr {fps fps' : Nat → Info} {Kp : V → Mem → Prop} {pk : Nat} : ∀ (fuel : Nat) (listed : Array Bool) (env : Env) (m : Mem), (∀ j, listed.getD j true = false → fps j = fps' j) → anyP P all fps Kp pk fuel listed env m → anyP P all fps' Kp pk fuel listed env m
  | 0, _, _, _, _, h => h
  | fuel + 1, listed, env, m, hf, h => ⟨h.1, fun i hi => by
    obtain ⟨o, ho, hc⟩ := h.2 i hi
    refine ⟨o, ho, ?_⟩
    rcases hc with hc | ⟨v, m', hg, hr⟩
    · exact .inl hc
    refine .inr ⟨v, m', by rw [← hf i (mem_ready.1 hi).1]; exact hg, anyP_congr fuel _ _ _ (fun j hj => ?_) hr⟩
    by_cases hij : i = j
    · subst hij
      exact hf i (mem_ready.1 hi).1
    · rw [getD_set_ne true hij] at hj
      exact hf j hj⟩
theorem apart_symm {x y : Oper} (h : x.apart all y = true) : y.apart all x = true := by
  obtain ⟨h1, h2, h3⟩ := Oper.apart_spec h
  unfold Oper.apart
  rw [Bool.and_eq_true]
  constructor
  · cases hd : y.dst with
    | none => rfl
    | some d =>
      have a := h3 d hd
      have b : x.dst ≠ some d := fun e => h2 d e hd
      simp [a, b]
  · cases hd : x.dst with
    | none => rfl
    | some d =>
      have a := h1 d hd
      simp [a]
theorem indep_quiet {i j : Info} {n : Nat} (hi : quiet i = true) (hj : quiet j = true) : indep i n j = true := by
  simp only [quiet, Bool.and_eq_true, List.isEmpty_iff, Bool.not_eq_true'] at hi hj
  unfold indep disj
  rw [hi.1, hj.1, hi.2, hj.2]
  simp
theorem indep_none {i : Info} {n : Nat} : indep i n ⟨[], [], false⟩ = true := by
  unfold indep disj
  simp
theorem quiet_none : quiet ⟨[], [], false⟩ = true := rfl
/-- What the text's order says of any two operations. -/
structure Lex (all : Array Oper) : Prop where
  free : ∀ i oi j oj, i < j → all[i]? = some oi → all[j]? = some oj → (∀ e ∈ oj.after, Region.binds .any e = true → e.on ≠ i) → oi.apart all oj = true
  edge : ∀ i oi, all[i]? = some oi → ∀ e ∈ oi.after, Region.binds .any e = true → e.on < i
theorem lex_of : ∀ (n k : Nat) (listed : Array Bool), k + n = all.size → listed.size = all.size → (∀ j, j < all.size → (listed.getD j true = true ↔ j < k)) → Region.lexFrom .any all n k listed = true →
    (∀ i oi j oj, k ≤ i → i < j → all[i]? = some oi → all[j]? = some oj → (∀ e ∈ oj.after, Region.binds .any e = true → e.on ≠ i) → oi.apart all oj = true) ∧ (∀ i oi, k ≤ i → all[i]? = some oi → ∀ e ∈ oi.after, Region.binds .any e = true → e.on < i)
  | 0, k, listed, hn, _, _, _ => by
    refine ⟨fun i oi j oj hk hij hi => ?_, fun i oi hk hi => ?_⟩
    · have := (Array.getElem?_eq_some_iff.1 hi).1; omega
    · have := (Array.getElem?_eq_some_iff.1 hi).1; omega
  | n + 1, k, listed, hn, hsz, hl, hB => by
    simp only [Region.lexFrom, Bool.and_eq_true] at hB
    obtain ⟨⟨hr, hf⟩, hB'⟩ := hB
    have hr' : k ∈ Region.ready .any all listed := by simpa using hr
    have hk : k < all.size := by omega
    obtain ⟨r1, r2⟩ := lex_of n (k + 1) (listed.setIfInBounds k true) (by omega) (by simpa using hsz) (fun j hj => by
      by_cases hkj : k = j
      · subst hkj; simp [hsz, hj]
      · rw [getD_set_ne true hkj, hl j hj]; omega) hB'
    refine ⟨fun i oi j oj hki hij hi hj hno => ?_, fun i oi hki hi e he hb => ?_⟩
    · rcases Nat.lt_or_ge k i with h | h
      · exact r1 i oi j oj (by omega) hij hi hj hno
      · obtain rfl : i = k := by omega
        have hj' := (Array.getElem?_eq_some_iff.1 hj).1
        refine Region.free_spec hi hf j oj hj (by omega) ?_ hno
        cases hx : listed.getD j true with
        | false => rfl
        | true => have := (hl j hj').1 hx; omega
    · rcases Nat.lt_or_ge k i with h | h
      · exact r2 i oi (by omega) hi e he hb
      · obtain rfl : i = k := by omega
        obtain ⟨_, o', ho', hall⟩ := mem_ready.1 hr'
        rw [hi] at ho'; cases ho'
        have h1 := hall e he hb
        have hes : e.on < all.size := by
          rcases Nat.lt_or_ge e.on all.size with h' | h'
          · exact h'
          · rw [Array.getD, dif_neg (by omega)] at h1; cases h1
        exact (hl e.on hes).1 (getD_ft h1)
theorem behind_spec {o : Oper} {S : List Nat} : behind o S = true ↔ ∃ e ∈ o.after, Region.binds .any e = true ∧ e.on ∈ S := by
  simp only [behind, List.any_eq_true, Bool.and_eq_true, List.contains_eq_mem, decide_eq_true_eq, Array.mem_toList_iff]
/-- Behind the call that panics. -/
theorem lexU (hx : Lex all) {Kp : V → Mem → Prop} {k : Nat} {ok : Oper} (hok : all[k]? = some ok) {vp : V} {mp : Mem} (hkp : Kp vp mp) {acc : List (Nat × Info × Nat)} :
    ∀ (l : List Oper) (p : Nat) (S : List Nat) (listed : Array Bool) (env : Env) (m : Mem), (∀ j, l[j]? = all[p + j]?) → p + l.length = all.size → listed.size = all.size → k < p →
      (∀ j, j < all.size → (listed.getD j true = false ↔ p ≤ j ∨ j ∈ S)) → S.Nodup → k ∈ S → (∀ j ∈ S, k ≤ j ∧ j < p ∧ (j ≠ k → ∃ oj, all[j]? = some oj ∧ behind oj S = true)) → k ∈ Region.ready .any all listed → closedL all listed →
      PanG P all ok env m vp mp → runU P all acc p S l env m →
      ∃ fps : Nat → Info, (∀ j, quiet (fps j) = true) ∧ (∀ x ∈ acc, ∀ j oj, all[j]? = some oj → waits all oj x.1 = true ∨ indep x.2.1 x.2.2 (fps j) = true) ∧ anyP P all fps Kp k (l.length + S.length) listed env m
  | [], p, S, listed, env, m, hl, hp, hsz, hkp', hun, hnd, hkS, hS, hkr, hcl, hpan, _ => by
    refine ⟨fun _ => ⟨[], [], false⟩, fun _ => quiet_none, fun x _ j oj _ => .inr indep_none, ?_⟩
    obtain ⟨n, hn⟩ : ∃ n, ([] : List Oper).length + S.length = n + 1 := ⟨S.length - 1, by
      have := List.length_pos_of_mem hkS
      simp; omega⟩
    rw [hn]
    refine ⟨fun h => (by rw [h] at hkr; cases hkr), fun i hi => ?_⟩
    obtain ⟨h1, oi, hoi, hall⟩ := mem_ready.1 hi
    have hilt := (Array.getElem?_eq_some_iff.1 hoi).1
    have hiS : i ∈ S := by
      rcases (hun i hilt).1 h1 with h | h
      · simp at hp; omega
      · exact h
    by_cases hik : i = k
    · subst hik
      rw [hok] at hoi; cases hoi
      exact ⟨ok, hok, .inl ⟨rfl, vp, mp, hpan, hkp⟩⟩
    · exfalso
      obtain ⟨oj, hoj, hb⟩ := (hS i hiS).2.2 hik
      rw [hoi] at hoj; cases hoj
      obtain ⟨e, he, hbe, heS⟩ := behind_spec.1 hb
      have h2 := getD_ft (hall e he hbe)
      have h3 := (hun e.on (by have := (hS e.on heS).2.1; simp at hp; omega)).2 (.inr heS)
      rw [h2] at h3; cases h3
  | o :: l, p, S, listed, env, m, hl, hp, hsz, hkp', hun, hnd, hkS, hS, hkr, hcl, hpan, hU => by
    have h0 : all[p]? = some o := by simpa using (hl 0).symm
    have hplt : p < all.size := (Array.getElem?_eq_some_iff.1 h0).1
    have hl' : ∀ j, l[j]? = all[p + 1 + j]? := fun j => by have := hl (j + 1); simpa [Nat.add_assoc, Nat.add_comm 1 j] using this
    have hpS : p ∉ S := fun h => by have := (hS p h).2.1; omega
    simp only [runU] at hU
    cases hb : behind o S with
    | true =>
      rw [hb] at hU
      simp only [cond_true] at hU
      obtain ⟨fps, f1, f2, f3⟩ := lexU hx hok hkp l (p + 1) (p :: S) listed env m hl' (by simp at hp; omega) hsz (by omega) (fun j hj => by
        rw [hun j hj, List.mem_cons]
        constructor
        · rintro (h | h)
          · by_cases hjp : j = p
            · exact .inr (.inl hjp)
            · exact .inl (by omega)
          · exact .inr (.inr h)
        · rintro (h | rfl | h)
          · exact .inl (by omega)
          · exact .inl (Nat.le_refl _)
          · exact .inr h) (List.nodup_cons.2 ⟨hpS, hnd⟩) (by simp [hkS]) (fun j hj => by
        rcases List.mem_cons.1 hj with rfl | h
        · refine ⟨by omega, by omega, fun _ => ⟨o, h0, ?_⟩⟩
          obtain ⟨e, he, h1, h2⟩ := behind_spec.1 hb
          exact behind_spec.2 ⟨e, he, h1, by simp [h2]⟩
        · obtain ⟨a1, a2, a3⟩ := hS j h
          refine ⟨a1, by omega, fun hne => ?_⟩
          obtain ⟨oj, b1, b2⟩ := a3 hne
          obtain ⟨e, he, h1, h2⟩ := behind_spec.1 b2
          exact ⟨oj, b1, behind_spec.2 ⟨e, he, h1, by simp [h2]⟩⟩) hkr hcl hpan hU
      exact ⟨fps, f1, f2, by rw [show (o :: l).length + S.length = l.length + (p :: S).length by simp; omega]; exact f3⟩
    | false =>
      rw [hb] at hU
      simp only [cond_false] at hU
      have hnb : ∀ e ∈ o.after, Region.binds .any e = true → e.on ∉ S := fun e he h1 h2 => by
        rw [behind_spec.2 ⟨e, he, h1, h2⟩] at hb; cases hb
      have hpr : p ∈ Region.ready .any all listed := mem_ready.2 ⟨(hun p hplt).2 (.inl (Nat.le_refl _)), o, h0, fun e he h1 => by
        have h2 := hx.edge p o h0 e he h1
        have hes : e.on < all.size := by omega
        cases hg : listed.getD e.on false with
        | true => rfl
        | false =>
          have : listed.getD e.on true = false := by
            simp [hsz, hes] at hg ⊢; exact hg
          rcases (hun e.on hes).1 this with h | h
          · omega
          · exact absurd h (hnb e he h1)⟩
      have hap : ∀ j oj, all[j]? = some oj → j ≠ p → listed.getD j true = false → (∀ e ∈ oj.after, Region.binds .any e = true → e.on ≠ p) → o.apart all oj = true := fun j oj hoj hjp hj hno => by
        have hjlt := (Array.getElem?_eq_some_iff.1 hoj).1
        rcases Nat.lt_or_ge p j with h | h
        · exact hx.free p o j oj h h0 hoj hno
        · rcases (hun j hjlt).1 hj with h' | h'
          · omega
          · exact apart_symm (hx.free j oj p o (by omega) hoj h0 (fun e he h1 h2 => hnb e he h1 (h2 ▸ h')))
      have hkr' := ready_mono hkr (show k ≠ p by omega)
      have hcl' := closedL_ready hcl hpr
      have hun' : ∀ j, j < all.size → ((listed.setIfInBounds p true).getD j true = false ↔ p + 1 ≤ j ∨ j ∈ S) := fun j hj => by
        by_cases hpj : p = j
        · subst hpj
          simp only [show (listed.setIfInBounds p true).getD p true = true by simp, hpS, or_false]
          simp
        · rw [getD_set_ne true hpj, hun j hj]
          constructor
          · rintro (h | h)
            · exact .inl (by omega)
            · exact .inr h
          · rintro (h | h)
            · exact .inl (by omega)
            · exact .inr h
      have hS' : ∀ j ∈ S, k ≤ j ∧ j < p + 1 ∧ (j ≠ k → ∃ oj, all[j]? = some oj ∧ behind oj S = true) := fun j hj => by
        obtain ⟨a1, a2, a3⟩ := hS j hj
        exact ⟨a1, by omega, a3⟩
      have hkun := (mem_ready.1 hkr).1
      have hpanput : ∀ u, PanG P all ok (put env o.dst u) m vp mp := fun u => (PanG_put (Oper.apart_spec (hap k ok hok (by omega) hkun (fun e he h1 h2 => by
        have := hx.edge k ok hok e he h1; omega))).1).2 hpan
      have hlen : (o :: l).length + S.length = (l.length + S.length) + 1 := by simp; omega
      rw [hlen]
      have fin : ∀ (v : V) (inf : Info), GStep P all o inf env m v m → quiet inf = true → (∀ x ∈ acc, waits all o x.1 = true ∨ indep x.2.1 x.2.2 inf = true) → runU P all acc (p + 1) S l (put env o.dst v) m →
          ∃ fps : Nat → Info, (∀ j, quiet (fps j) = true) ∧ (∀ x ∈ acc, ∀ j oj, all[j]? = some oj → waits all oj x.1 = true ∨ indep x.2.1 x.2.2 (fps j) = true) ∧ anyP P all fps Kp k (l.length + S.length + 1) listed env m := by
        intro v inf hg hq hacc hU'
        obtain ⟨fps, f1, f2, f3⟩ := lexU hx hok hkp l (p + 1) S (listed.setIfInBounds p true) (put env o.dst v) m hl' (by simp at hp; omega) (by simpa using hsz) (by omega) hun' hnd hkS hS' hkr' hcl' (hpanput v) hU'
        have hfq : ∀ j, quiet (if j = p then inf else fps j) = true := fun j => by split; exact hq; exact f1 j
        refine ⟨fun j => if j = p then inf else fps j, hfq, fun x hx2 j oj hoj => ?_, ?_⟩
        · by_cases hjp : j = p
          · subst hjp
            rw [h0] at hoj; cases hoj
            simpa using hacc x hx2
          · simpa [hjp] using f2 x hx2 j oj hoj
        · refine anyP_first h0 (show p ≠ k by omega) _ listed env m v m hap (fun j oj _ _ _ _ => indep_quiet (hfq p) (hfq j)) (fun _ _ _ => hfq p) hcl hpr (by simpa using hg) (anyP_congr _ _ _ _ (fun j hj => ?_) f3)
          rw [if_neg]
          rintro rfl
          simp at hj
      split at hU
      · exact hU.elim
      · rename_i hw
        exact fin (.tup []) ⟨[], [], false⟩ (by unfold GStep; rw [hw]; simp) rfl (fun x _ => .inr indep_none) hU
      · rename_i hw
        obtain ⟨v, inf, s1, ⟨s2, s3, s4, s5⟩, s6, s7⟩ := hU
        refine fin v inf (by unfold GStep; rw [hw]; exact ⟨s1, s2, s3, s4⟩) s6 (fun x hx2 => ?_) s7
        have := List.all_eq_true.1 s5 x hx2
        simpa using this
theorem lexP (hx : Lex all) {Kp : V → Mem → Prop} : ∀ (l : List Oper) (k : Nat) (listed : Array Bool) (acc : List (Nat × Info × Nat)) (env : Env) (m : Mem), (∀ j, l[j]? = all[k + j]?) → k + l.length = all.size → listed.size = all.size → (∀ j, j < all.size → (listed.getD j true = true ↔ j < k)) → closedL all listed →
    runDrawnP P all Kp k acc l env m →
    ∃ (fps : Nat → Info) (pk : Nat), k ≤ pk ∧ (∀ x ∈ acc, ∀ j oj, k ≤ j → all[j]? = some oj → waits all oj x.1 = true ∨ indep x.2.1 x.2.2 (fps j) = true) ∧ (∀ x ∈ acc, ∀ o, all[pk]? = some o → waits all o x.1 = true ∨ quiet x.2.1 = true) ∧ anyP P all fps Kp pk l.length listed env m
  | [], _, _, _, _, _, _, _, _, _, _, h => h.elim
  | o :: l, k, listed, acc, env, m, hl, hn, hsz, hls, hcl, h => by
    have h0 : all[k]? = some o := by simpa using (hl 0).symm
    have hklt : k < all.size := (Array.getElem?_eq_some_iff.1 h0).1
    have hkun : listed.getD k true = false := by
      cases hx2 : listed.getD k true with
      | false => rfl
      | true => have := (hls k hklt).1 hx2; omega
    have hr' : k ∈ Region.ready .any all listed := mem_ready.2 ⟨hkun, o, h0, fun e he hb => by
      have h2 := hx.edge k o h0 e he hb
      have h3 := (hls e.on (by omega)).2 h2
      have : e.on < listed.size := by omega
      simp [this] at h3 ⊢; exact h3⟩
    have hcl' := closedL_ready hcl hr'
    have hl' : ∀ j, l[j]? = all[k + 1 + j]? := fun j => by have := hl (j + 1); simpa [Nat.add_assoc, Nat.add_comm 1 j] using this
    have hls' : ∀ j, j < all.size → ((listed.setIfInBounds k true).getD j true = true ↔ j < k + 1) := fun j hj => by
      by_cases hkj : k = j
      · subst hkj; simp
      · rw [getD_set_ne true hkj, hls j hj]; omega
    have hap : ∀ j oj, all[j]? = some oj → j ≠ k → listed.getD j true = false → (∀ e ∈ oj.after, Region.binds .any e = true → e.on ≠ k) → o.apart all oj = true := fun j oj hoj hjk hj hno => by
      have hjlt := (Array.getElem?_eq_some_iff.1 hoj).1
      refine hx.free k o j oj ?_ h0 hoj hno
      rcases Nat.lt_or_ge j k with h' | h'
      · rw [(hls j hjlt).2 h'] at hj; cases hj
      · omega
    have hgt : ∀ j oj, all[j]? = some oj → j ≠ k → listed.getD j true = false → k + 1 ≤ j := fun j oj hoj hjk hun => by
      have hjlt := (Array.getElem?_eq_some_iff.1 hoj).1
      rcases Nat.lt_or_ge j k with h' | h'
      · rw [(hls j hjlt).2 h'] at hun; cases hun
      · omega
    simp only [runDrawnP] at h
    split at h
    · exact h.elim
    · rename_i hw
      obtain ⟨fps, pk, f0, f1, f2, f3⟩ := lexP hx l (k + 1) (listed.setIfInBounds k true) acc _ _ hl' (by simp at hn; omega) (by simpa using hsz) hls' hcl' h
      refine ⟨fun j => if j = k then ⟨[], [], false⟩ else fps j, pk, by omega, fun x hx2 j oj hj ho => ?_, f2, ?_⟩
      · by_cases hjk : j = k
        · right; simp [hjk, indep_none]
        · simp only [hjk, if_false]; exact f1 x hx2 j oj (by omega) ho
      · refine anyP_first h0 (by omega) l.length listed env m (.tup []) m hap (fun j oj ho hjk hun hno => ?_) (fun _ _ _ => by simp [quiet_none]) hcl hr' ?_ (anyP_congr _ _ _ _ (fun j hj => ?_) f3)
        · simp [indep, disj]
        · unfold GStep; rw [hw]; simp
        · rw [if_neg]
          rintro rfl
          simp at hj
    · rename_i hw
      rcases h with ⟨v, m', inf, s1, ⟨s2, s3, s4, s5⟩, s6⟩ | ⟨p1, p2, p3, v, m', p4, p5⟩
      · obtain ⟨fps, pk, f0, f1, f2, f3⟩ := lexP hx l (k + 1) (listed.setIfInBounds k true) ((k, inf, m.length) :: acc) _ _ hl' (by simp at hn; omega) (by simpa using hsz) hls' hcl' s6
        refine ⟨fun j => if j = k then inf else fps j, pk, by omega, fun x hx2 j oj hj ho => ?_, fun x hx2 => f2 x (by simp [hx2]), ?_⟩
        · by_cases hjk : j = k
          · subst hjk
            rw [h0] at ho; cases ho
            simp only [if_true]
            have := List.all_eq_true.1 s5 x hx2
            simpa using this
          · simp only [hjk, if_false]; exact f1 x (by simp [hx2]) j oj (by omega) ho
        · refine anyP_first h0 (by omega) l.length listed env m v m' hap (fun j oj ho hjk hun hno => ?_) (fun op hop hnw => ?_) hcl hr' ?_ (anyP_congr _ _ _ _ (fun j hj => ?_) f3)
          · simp only [if_true, hjk, if_false]
            rcases f1 (k, inf, m.length) (by simp) j oj (hgt j oj ho hjk hun) ho with h' | h'
            · rw [hno] at h'; cases h'
            · exact h'
          · simp only [if_true]
            rcases f2 (k, inf, m.length) (by simp) op hop with h' | h'
            · rw [hnw] at h'; cases h'
            · exact h'
          · simp only [if_true]
            unfold GStep; rw [hw]
            exact ⟨s1, s2, s3, s4⟩
          · rw [if_neg]
            rintro rfl
            simp at hj
      · obtain ⟨fps, f1, f2, f3⟩ := lexU hx h0 p5 (acc := acc) l (k + 1) [k] listed env m hl' (by simp at hn; omega) hsz (by omega) (fun j hj => by
          constructor
          · intro h1
            rcases Nat.lt_or_ge j k with h' | h'
            · rw [(hls j hj).2 h'] at h1; cases h1
            · by_cases hjk : j = k
              · exact .inr (by simp [hjk])
              · exact .inl (by omega)
          · intro h1
            cases hx2 : listed.getD j true with
            | false => rfl
            | true =>
              have := (hls j hj).1 hx2
              rcases h1 with h1 | h1
              · omega
              · simp at h1; omega) (by simp) (by simp) (fun j hj => by
          simp at hj; subst hj
          exact ⟨Nat.le_refl _, by omega, fun h => absurd rfl h⟩) hr' hcl ⟨hw, p1, p4⟩ p3
        refine ⟨fps, k, Nat.le_refl _, fun x hx2 j oj _ ho => f2 x hx2 j oj ho, fun x hx2 op hop => ?_, by simpa using f3⟩
        rw [h0] at hop; cases hop
        have := List.all_eq_true.1 p2 x hx2
        simpa using this
theorem PanV_sound {ρ : Pl} {I : Nat → Prop} {w : World} {m m' : Mem} (hr : Rep ρ I m w) {a : Act} {env : Env} (he : REnv m.length ρ I w env a) {o : Oper} {v : V} (h : PanV P o env m v m')
    {next : Act → World → Prop} {Q : Exit → Act → World → Prop} (hK : ∀ x ρ' I' w', Rep ρ' I' m' w' → Step ρ I m w ρ' I' m' w' → RV m'.length ρ' I' w' v x → Q (.panic [{ v := x, recovered := false }]) a w') : o.wp P a w next Q := by
  unfold PanV at h
  split at h
  · rename_i f vs hc
    obtain ⟨h1, h2, v1, m1, h3, h4, rfl, rfl⟩ := h
    have hcd : callD P f vs m (fun _ _ => False) (fun v2 m2 => v2 = (backV (rootsV m vs) m v1 m1).1 ∧ m2 = (backV (rootsV m vs) m v1 m1).2) := by
      refine .inl ⟨h1, h2, _, h3, ?_⟩
      rintro r rfl
      exact ⟨h4, rfl, rfl⟩
    exact callD_sound hr he hc hcd (fun _ _ _ _ _ _ hf => hf.elim) (fun v2 m2 x ρ' I' w' hv r1 r2 r3 => by obtain ⟨rfl, rfl⟩ := hv; exact hK x ρ' I' w' r1 r2 r3)
  · exact h.elim
theorem anyP_sound {nt : Nat} (hd : dstsOk nt all = true) {fps : Nat → Info} {Q : Exit → Act → World → Prop} {ds : List Deferred} (ρ0 : Pl) (I0 : Nat → Prop) (m0 : Mem) (w0 : World) (env0 : Env) (Kp : V → Mem → Prop) {pk : Nat}
    (hK : ∀ v m x a ρ I w, Kp v m → Rep ρ I m w → RV m.length ρ I w v x → REnv m.length ρ I w (wipe all env0) a → a.tmps.size = nt → a.defers = ds → Step ρ0 I0 m0 w0 ρ I m w → Q (.panic [{ v := x, recovered := false }]) a w) :
    ∀ (fuel : Nat) (listed : Array Bool) (env : Env) (m : Mem) (a : Act) (ρ : Pl) (I : Nat → Prop) (w : World), wipe all env = wipe all env0 → anyP P all fps Kp pk fuel listed env m → Rep ρ I m w → REnv m.length ρ I w env a → a.tmps.size = nt → a.defers = ds →
      Step ρ0 I0 m0 w0 ρ I m w → wpAny P .any all Q fuel listed a w
  | 0, _, _, _, _, _, _, _, _, h, _, _, _, _, _ => h.elim
  | fuel + 1, listed, env, m, a, ρ, I, w, hwi, h, hr, he, hs, hds, hst => by
    refine ⟨fun h0 => absurd h0 h.1, fun i hi => ?_⟩
    obtain ⟨o, ho, hcase⟩ := h.2 i hi
    have hmem : o ∈ all.toList := by rw [← Array.getElem?_toList] at ho; exact List.mem_of_getElem? ho
    have hdo := dstsOk_spec hd hmem
    have hwp : ∀ v, wipe all (put env o.dst v) = wipe all env0 := fun v => (wipe_put hmem).trans hwi
    have hall : ∀ (i : Nat) (x : Oper) d, all[i]? = some x → x.dst = some d → d < a.tmps.size := fun i x d h1 h2 => by
      rw [hs]; exact dstsOk_spec hd (by rw [← Array.getElem?_toList] at h1; exact List.mem_of_getElem? h1) d h2
    have hput : ∀ x, (a.put o.dst x).tmps.size = nt ∧ (a.put o.dst x).defers = ds := by
      intro x
      unfold Act.put
      cases o.dst <;> simp [hs, hds]
    unfold wpOp
    simp only [ho]
    rcases hcase with ⟨_, v, m', ⟨hw, _, hp⟩, hkp⟩ | ⟨v, m', hg, hrest⟩
    · have hwant := wantD_sound he hw hall
      rw [if_pos hwant]
      exact .inl (PanV_sound hr he hp fun x ρ' I' w' r1 r2 r3 => hK v m' x a ρ' I' w' hkp r1 r3 (by rw [← hwi]; exact (he.keep r2.keeps).wipe) hs hds (hst.trans r2))
    unfold GStep at hg
    split at hg
    · exact hg.elim
    · rename_i hw
      have hwant := wantD_sound he hw hall
      rw [if_neg (by rw [hwant]; exact Bool.false_ne_true)]
      obtain ⟨rfl, rfl, _⟩ := hg
      exact anyP_sound hd ρ0 I0 m0 w0 env0 Kp hK fuel _ _ _ _ _ _ _ (hwp _) hrest hr (he.put (RV_undef _) (fun k hk => by rw [hs]; exact hdo k hk)) (hput _).1 (hput _).2 hst
    · rename_i hw
      have hwant := wantD_sound he hw hall
      rw [if_pos hwant]
      refine .inl (StepI_sound hr he hg.1 fun x ρ' I' w' r1 r2 r3 => ?_)
      exact anyP_sound hd ρ0 I0 m0 w0 env0 Kp hK fuel _ _ _ _ _ _ _ (hwp _) hrest r1 ((he.keep r2.keeps).put r3 (fun k hk => by rw [hs]; exact hdo k hk)) (hput _).1 (hput _).2 (hst.trans r2)
theorem drawn_soundP {nt : Nat} {X : Prop} (hd : dstsOk nt all = true) (hB : Region.lexB .any all = true) {Q : Exit → Act → World → Prop} {ds : List Deferred} (Kp : V → Mem → Prop)
    {env : Env} {m : Mem} {a : Act} {ρ : Pl} {I : Nat → Prop} {w : World} (h : runDrawnP P all Kp 0 [] all.toList env m) (hr : Rep ρ I m w) (he : REnv m.length ρ I w env a) (hs : a.tmps.size = nt) (hds : a.defers = ds)
    (hK : ∀ v m' x a ρ' I' w', Kp v m' → Rep ρ' I' m' w' → RV m'.length ρ' I' w' v x → REnv m'.length ρ' I' w' (wipe all env) a → a.tmps.size = nt → a.defers = ds → Step ρ I m w ρ' I' m' w' → Q (.panic [{ v := x, recovered := false }]) a w') :
    (wpAny P .any all Q all.size (Array.replicate all.size false) a w.drew → X) → X := by
  intro hWP
  simp only [Region.lexB, Bool.and_eq_true] at hB
  refine hWP ?_
  have hun : ∀ j, j < all.size → ((Array.replicate all.size false).getD j true = true ↔ j < 0) := fun j hj => by simp [hj]
  obtain ⟨x1, x2⟩ := lex_of all.size 0 (Array.replicate all.size false) (by omega) (by simp) hun hB.2
  have hx : Lex all := ⟨fun i oi j oj hij hi hj => x1 i oi j oj (by omega) hij hi hj, fun i oi hi => x2 i oi (by omega) hi⟩
  obtain ⟨fps, pk, _, _, _, hA⟩ := lexP hx all.toList 0 (Array.replicate all.size false) [] env m (by simp) (by simp) (by simp) hun (fun k ok hk hkl => by
    have : k < all.size := (Array.getElem?_eq_some_iff.1 hk).1
    simp [this] at hkl) h
  obtain ⟨r1, r2⟩ := hr.same (Same.drew w)
  have := anyP_sound hd ρ I m w env Kp hK _ _ env m a ρ I w.drew rfl hA r1 (he.keep r2.keeps) hs hds r2
  simpa using this
end
end Go.Proofs.Ytjjenpdjmcmgbaa.Ab
namespace Go.Proofs.Ytjjenpdjmcmgbaa.Ab
open Go
set_option linter.unusedSimpArgs false
set_option linter.unusedVariables false
/-- A step of an operation in whatever order. -/
def NStep (P : Program) (all : Array Oper) (o : Oper) (env : Env) (m : Mem) (K Kp : V → Mem → Prop) : Prop :=
  match wantD all env o with
  | none => False
  | some false => K (.tup []) m
  | some true => match calleeV (evO env) o.op with
    | some (f, vs) => callD P f vs m K Kp
    | none => match execD P (evO env) m o.op with
      | some (.val v m1) => K v m1
      | some (.skip m1) => K (.tup []) m1
      | _ => False
/-- Whatever order is picked from here on. -/
def anyN (P : Program) (all : Array Oper) (K : Env → Mem → Prop) (Kp : V → Mem → Prop) : Nat → Array Bool → Env → Mem → Prop
  | 0, listed, env, m => Region.ready .any all listed = [] ∧ K env m
  | fuel + 1, listed, env, m => (Region.ready .any all listed = [] → K env m) ∧
    ∀ i ∈ Region.ready .any all listed, ∃ o, all[i]? = some o ∧ NStep P all o env m (fun v m' => anyN P all K Kp fuel (listed.setIfInBounds i true) (put env o.dst v) m') Kp
section
variable {P : Program} {all : Array Oper}
theorem callD_mono2 {f : FuncId} {vs : List V} {m : Mem} {K K' Kp Kp' : V → Mem → Prop} (hK : ∀ v m, K v m → K' v m) (hKp : ∀ v m, Kp v m → Kp' v m) (h : callD P f vs m K Kp) : callD P f vs m K' Kp' := by
  rcases h with ⟨h1, h2, Q, h3, h4⟩ | ⟨h2, Q, h3, h4⟩
  · refine .inl ⟨h1, h2, Q, h3, fun r' hr' => ?_⟩
    obtain ⟨k1, k2⟩ := h4 r' hr'
    refine ⟨k1, ?_⟩
    cases r' with
    | ret v m1 => exact hK _ _ k2
    | pan v m1 => exact hKp _ _ k2
  · refine .inr ⟨h2, Q, h3, fun r' hr' => ?_⟩
    have k2 := h4 r' hr'
    cases r' with
    | ret v m1 => exact hK _ _ k2
    | pan v m1 => exact hKp _ _ k2
theorem callD_monoK {f : FuncId} {vs : List V} {m : Mem} {K K' Kp : V → Mem → Prop} (hK : ∀ v m, K v m → K' v m) (h : callD P f vs m K Kp) : callD P f vs m K' Kp := callD_mono2 hK (fun _ _ h => h) h
theorem NStep_mono {o : Oper} {env : Env} {m : Mem} {K K' Kp Kp' : V → Mem → Prop} (hK : ∀ v m, K v m → K' v m) (hKp : ∀ v m, Kp v m → Kp' v m) (h : NStep P all o env m K Kp) : NStep P all o env m K' Kp' := by
  unfold NStep at h ⊢
  split at h
  · exact h.elim
  · exact hK _ _ h
  · split at h
    · exact callD_mono2 hK hKp h
    · split at h
      · exact hK _ _ h
      · exact hK _ _ h
      · exact h.elim
theorem anyN_mono {K K' : Env → Mem → Prop} {Kp Kp' : V → Mem → Prop} (hK : ∀ e m, K e m → K' e m) (hKp : ∀ v m, Kp v m → Kp' v m) : ∀ (fuel : Nat) (listed : Array Bool) (env : Env) (m : Mem), anyN P all K Kp fuel listed env m → anyN P all K' Kp' fuel listed env m
  | 0, _, _, _, h => ⟨h.1, hK _ _ h.2⟩
  | fuel + 1, listed, env, m, h => ⟨fun h0 => hK _ _ (h.1 h0), fun i hi => by
      obtain ⟨o, ho, hs⟩ := h.2 i hi
      exact ⟨o, ho, NStep_mono (fun v m' h => anyN_mono hK hKp fuel _ _ _ h) hKp hs⟩⟩
theorem anyN_sound {nt : Nat} (hd : dstsOk nt all = true) {Q : Exit → Act → World → Prop} {ds : List Deferred} (ρ0 : Pl) (I0 : Nat → Prop) (m0 : Mem) (w0 : World) (env0 : Env) (K : Env → Mem → Prop) (Kp : V → Mem → Prop)
    (hK : ∀ env m a ρ I w, K env m → Rep ρ I m w → REnv m.length ρ I w env a → a.tmps.size = nt → a.defers = ds → Step ρ0 I0 m0 w0 ρ I m w → Q .normal a w)
    (hKp : ∀ v m x a ρ I w, Kp v m → Rep ρ I m w → RV m.length ρ I w v x → REnv m.length ρ I w (wipe all env0) a → a.tmps.size = nt → a.defers = ds → Step ρ0 I0 m0 w0 ρ I m w → Q (.panic [{ v := x, recovered := false }]) a w) :
    ∀ (fuel : Nat) (listed : Array Bool) (env : Env) (m : Mem) (a : Act) (ρ : Pl) (I : Nat → Prop) (w : World), wipe all env = wipe all env0 → anyN P all K Kp fuel listed env m → Rep ρ I m w → REnv m.length ρ I w env a → a.tmps.size = nt → a.defers = ds →
      Step ρ0 I0 m0 w0 ρ I m w → wpAny P .any all Q fuel listed a w
  | 0, _, env, m, a, ρ, I, w, _, h, hr, he, hs, hds, hst => ⟨h.1, hK env m a ρ I w h.2 hr he hs hds hst⟩
  | fuel + 1, listed, env, m, a, ρ, I, w, hwi, h, hr, he, hs, hds, hst => by
    refine ⟨fun h0 => hK env m a ρ I w (h.1 h0) hr he hs hds hst, fun i hi => ?_⟩
    obtain ⟨o, ho, hg⟩ := h.2 i hi
    have hmem : o ∈ all.toList := by rw [← Array.getElem?_toList] at ho; exact List.mem_of_getElem? ho
    have hdo := dstsOk_spec hd hmem
    have hwp : ∀ v, wipe all (put env o.dst v) = wipe all env0 := fun v => (wipe_put hmem).trans hwi
    have hall : ∀ (i : Nat) (x : Oper) d, all[i]? = some x → x.dst = some d → d < a.tmps.size := fun i x d h1 h2 => by
      rw [hs]; exact dstsOk_spec hd (by rw [← Array.getElem?_toList] at h1; exact List.mem_of_getElem? h1) d h2
    have hput : ∀ x, (a.put o.dst x).tmps.size = nt ∧ (a.put o.dst x).defers = ds := by
      intro x
      unfold Act.put
      cases o.dst <;> simp [hs, hds]
    unfold wpOp
    simp only [ho]
    unfold NStep at hg
    split at hg
    · exact hg.elim
    · rename_i hw
      have hwant := wantD_sound he hw hall
      rw [if_neg (by rw [hwant]; exact Bool.false_ne_true)]
      exact anyN_sound hd ρ0 I0 m0 w0 env0 K Kp hK hKp fuel _ _ _ _ _ _ _ (hwp _) hg hr (he.put (RV_undef _) (fun k hk => by rw [hs]; exact hdo k hk)) (hput _).1 (hput _).2 hst
    · rename_i hw
      have hwant := wantD_sound he hw hall
      rw [if_pos hwant]
      have next : ∀ v m' x ρ' I' w', anyN P all K Kp fuel (listed.setIfInBounds i true) (put env o.dst v) m' → Rep ρ' I' m' w' → Step ρ I m w ρ' I' m' w' → RV m'.length ρ' I' w' v x → wpAny P .any all Q fuel (listed.setIfInBounds i true) (a.put o.dst x) w' := fun v m' x ρ' I' w' hn r1 r2 r3 =>
        anyN_sound hd ρ0 I0 m0 w0 env0 K Kp hK hKp fuel _ _ _ _ _ _ _ (hwp _) hn r1 ((he.keep r2.keeps).put r3 (fun k hk => by rw [hs]; exact hdo k hk)) (hput _).1 (hput _).2 (hst.trans r2)
      refine .inl ?_
      split at hg
      · rename_i f vs hc
        exact callD_sound hr he hc hg (fun v2 m2 x ρ' I' w' hv r1 r2 r3 => next _ _ _ _ _ _ hv r1 r2 r3) (fun v2 m2 x ρ' I' w' hkp r1 r2 r3 => hKp v2 m2 x a ρ' I' w' hkp r1 r3 (by rw [← hwi]; exact (he.keep r2.keeps).wipe) hs hds (hst.trans r2))
      · split at hg
        · rename_i u m1 hx
          obtain ⟨x, w', ρ', I', k1, k2, k3, k4⟩ := execD_sound hr (fun x => he.evO x) hx
          unfold Oper.wp
          rw [k1]
          exact next _ _ _ _ _ _ hg k2 k3 k4
        · rename_i m1 hx
          obtain ⟨w', ρ', I', k1, k2, k3⟩ := execD_sound hr (fun x => he.evO x) hx
          unfold Oper.wp
          rw [k1]
          exact next _ _ _ _ _ _ hg k2 k3 (RV_undef _)
        · exact hg.elim
theorem drawn_soundN {nt : Nat} {X : Prop} (hd : dstsOk nt all = true) {Q : Exit → Act → World → Prop} {ds : List Deferred} (K : Env → Mem → Prop) (Kp : V → Mem → Prop)
    {env : Env} {m : Mem} {a : Act} {ρ : Pl} {I : Nat → Prop} {w : World} (h : anyN P all K Kp all.size (Array.replicate all.size false) env m) (hr : Rep ρ I m w) (he : REnv m.length ρ I w env a) (hs : a.tmps.size = nt) (hds : a.defers = ds)
    (hK : ∀ env m' a ρ' I' w', K env m' → Rep ρ' I' m' w' → REnv m'.length ρ' I' w' env a → a.tmps.size = nt → a.defers = ds → Step ρ I m w ρ' I' m' w' → Q .normal a w')
    (hKp : ∀ v m' x a ρ' I' w', Kp v m' → Rep ρ' I' m' w' → RV m'.length ρ' I' w' v x → REnv m'.length ρ' I' w' (wipe all env) a → a.tmps.size = nt → a.defers = ds → Step ρ I m w ρ' I' m' w' → Q (.panic [{ v := x, recovered := false }]) a w') :
    (wpAny P .any all Q all.size (Array.replicate all.size false) a w.drew → X) → X := by
  intro hWP
  refine hWP ?_
  obtain ⟨r1, r2⟩ := hr.same (Same.drew w)
  exact anyN_sound hd ρ I m w env K Kp hK hKp _ _ env m a ρ I w.drew rfl h r1 (he.keep r2.keeps) hs hds r2
end
end Go.Proofs.Ytjjenpdjmcmgbaa.Ab
