/- A region whose order is open: if what touches the same memory is in order, the text's order serves every order. No condition. -/
import Derived.Test.YtnhejkfbnjopjaaAbs12
import Derived.Still
namespace Go.Proofs.Ytnhejkfbnjopjaa.Ab
open Go
set_option linter.unusedSimpArgs false
set_option linter.unusedVariables false

/-- What an operation touches: the blocks that it reads, those that it writes, whether it makes new ones. -/
structure Info where
  rd : List Nat
  wr : List Nat
  al : Bool

/-- The map's block, whose length is in memory; a slice's length is its own. -/
def mnm : V → List Nat
  | .mp n => [n]
  | _ => []

def infoD (e : Operand → V) (m : Mem) (op : Op) (v : V) : Option Info :=
  match calleeV e op with
  | some (_, vs) => some ⟨[], rootsV m vs, !((rootsV m vs).isEmpty && nf v)⟩
  | none => match op with
    | .load _ a => some ⟨nms (e a), [], false⟩
    | .store _ a _ => some ⟨[], nms (e a), false⟩
    | .alloc _ => some ⟨[], [], true⟩
    | .box _ _ => some ⟨[], [], true⟩
    | .buildSlice _ _ ps => bif nfs (ps.toList.map fun p => e p.2) then some ⟨[], [], true⟩ else none
    | .call { callee := .builtin .append, args, .. } => match args.toList with
      | [s, x] => some ⟨nms (e x), nms (e s), true⟩
      | _ => none
    | .call { callee := .builtin .len, args, .. } => match args.toList with
      | [x] => some ⟨mnm (e x), [], false⟩
      | _ => none
    | .call _ => none
    | .move _ | .assign _ | .pick _ _ _ | .build _ _ | .nilCheck _ | .binOp _ _ _ _ _ | .unOp _ _ _ | .convert _ _ _ | .makeFunc _ _ _ | .makeInterface _ _ | .slice _ _ _ _ _
    | .fieldAddr _ _ _ | .field _ _ _ | .indexAddr _ _ _ | .index _ _ _ | .extract _ _ => some ⟨[], [], false⟩
    | _ => none

/-- One operation: its value and memory behind it. -/
def StepV (P : Program) (o : Oper) (env : Env) (m : Mem) (v : V) (m' : Mem) : Prop :=
  match calleeV (evO env) o.op with
  | some (f, vs) => okCall (rootsV m vs) m vs = true ∧ enterable P f = true ∧
      (((rootsV m vs).isEmpty = true ∧ nf v = true ∧ m' = m ∧ Snd P f (rens (idx (rootsV m vs)) vs) (view (rootsV m vs) m) fun r => ∃ m1, r = .ret v m1) ∨
       ∃ v1 m1, Snd P f (rens (idx (rootsV m vs)) vs) (view (rootsV m vs) m) (fun r => r = .ret v1 m1) ∧ okBack (rootsV m vs) v1 m1 = true ∧ ((rootsV m vs).isEmpty && nf v) = false ∧
         v = ren (back (rootsV m vs) m.length) v1 ∧ m' = merge (rootsV m vs) m m1)
  | none => match execD P (evO env) m o.op with
    | some (.val u m1) => v = u ∧ m' = m1
    | some (.skip m1) => v = .tup [] ∧ m' = m1
    | none => False

def disj (a b : List Nat) : Bool := a.all fun n => !b.contains n

def indep (i : Info) (len : Nat) (j : Info) : Bool :=
  disj i.wr (j.rd ++ j.wr) && (disj i.rd j.wr && (!(i.al && j.al) && (!i.al || (j.rd ++ j.wr).all fun n => Nat.blt n len)))

def waits (o : Oper) (i : Nat) : Bool := o.after.toList.any fun e => Region.binds .any e && Nat.beq e.on i

/-- What is asked of a wanted operation beside its step. -/
def fits (o : Oper) (env : Env) (m : Mem) (v : V) (acc : List (Nat × Info × Nat)) (inf : Info) : Prop :=
  panicV (evO env) o.op = none ∧ infoD (evO env) m o.op v = some inf ∧ (inf.rd ++ inf.wr).all (fun n => Nat.blt n m.length) = true ∧ acc.all (fun x => waits o x.1 || indep x.2.1 x.2.2 inf) = true

def runDrawn (P : Program) (all : Array Oper) (K : Env → Mem → Prop) : Nat → List (Nat × Info × Nat) → List Oper → Env → Mem → Prop
  | _, _, [], env, m => K env m
  | k, acc, o :: r, env, m =>
    match wantD all env o with
    | none => False
    | some false => runDrawn P all K (k + 1) acc r (put env o.dst (.tup [])) m
    | some true => ∃ v m' inf, StepV P o env m v m' ∧ fits o env m v acc inf ∧ runDrawn P all K (k + 1) ((k, inf, m.length) :: acc) r (put env o.dst v) m'

section
variable {P : Program} {m : Mem}

/-- Where a step looks and what it leaves. -/
structure Loc (S : Mem → V → Mem → Prop) (rd wr : List Nat) (al : Bool) (m : Mem) (v : V) (m' : Mem) : Prop where
  le : m.length ≤ m'.length
  noal : al = false → m'.length = m.length
  out : ∀ n, n < m.length → n ∉ wr → m'[n]? = m[n]?
  move : ∀ m2 : Mem, (∀ n, n ∈ rd ∨ n ∈ wr → m2[n]? = m[n]?) → (al = true → m2.length = m.length) →
    ∃ m2', S m2 v m2' ∧ m2'.length = m2.length + (m'.length - m.length) ∧ (∀ n ∈ wr, n < m.length → m2'[n]? = m'[n]?) ∧ (∀ n, n < m2.length → n ∉ wr → m2'[n]? = m2[n]?) ∧
      ∀ j, m2'[m2.length + j]? = m'[m.length + j]?

theorem Loc.pure {S : Mem → V → Mem → Prop} {v : V} {rd : List Nat} (h : ∀ m2 : Mem, (∀ n, n ∈ rd → m2[n]? = m[n]?) → S m2 v m2) : Loc S rd [] false m v m :=
  ⟨Nat.le_refl _, fun _ => rfl, fun _ _ _ => rfl, fun m2 h1 _ => ⟨m2, h m2 (fun n hn => h1 n (.inl hn)), by omega, by simp, fun _ _ _ => rfl, fun j => by
    rw [List.getElem?_eq_none (by omega), List.getElem?_eq_none (by omega)]⟩⟩

theorem Loc.commute {Si Sj : Mem → V → Mem → Prop} {ri wi rj wj : List Nat} {ai aj : Bool} {mi mij : Mem} {vi vj : V} (hi : Loc Si ri wi ai m vi mi) (hj : Loc Sj rj wj aj mi vj mij)
    (hbi : (ri ++ wi).all (fun n => Nat.blt n m.length) = true) (hbj : (rj ++ wj).all (fun n => Nat.blt n mi.length) = true) (hind : indep ⟨ri, wi, ai⟩ m.length ⟨rj, wj, aj⟩ = true) :
    ∃ mj, Sj m vj mj ∧ Si mj vi mij ∧ (∀ n ∈ rj ++ wj, n < m.length) := by
  unfold indep disj at hind
  simp only [Bool.and_eq_true, List.all_eq_true, Bool.not_eq_true', List.contains_eq_mem, decide_eq_false_iff_not, List.mem_append, not_or, Bool.or_eq_true, Nat.blt_eq, Bool.and_eq_false_iff] at hind hbi hbj
  obtain ⟨d1, d2, d3, d4⟩ := hind
  have hjm : ∀ n, n ∈ rj ∨ n ∈ wj → n < m.length := by
    intro n hn
    have h1 := hbj n hn
    cases ai with
    | false => rw [hi.noal rfl] at h1; exact h1
    | true =>
      rcases d4 with h | h
      · cases h
      · exact h n hn
  obtain ⟨mj, s1, s2, s3, s4, s5⟩ := hj.move m (fun n hn => (hi.out n (hjm n hn) (fun h => by
    have := d1 n h
    rcases hn with hn | hn
    · exact this.1 hn
    · exact this.2 hn)).symm) (fun ha => by
    have : ai = false := by
      rcases d3 with h | h
      · exact h
      · rw [ha] at h; cases h
    exact (hi.noal this).symm)
  obtain ⟨mji, t1, t2, t3, t4, t5⟩ := hi.move mj (fun n hn => by
    have hlt : n < m.length := hbi n hn
    refine s4 n hlt (fun h => ?_)
    rcases hn with hn | hn
    · exact d2 n hn h
    · exact (d1 n hn).2 h) (fun ha => by
    have : aj = false := by
      rcases d3 with h | h
      · rw [ha] at h; cases h
      · exact h
    rw [s2, hj.noal this]; omega)
  refine ⟨mj, s1, ?_, fun n hn => hjm n (by simpa using hn)⟩
  have : mji = mij := by
    apply List.ext_getElem?
    intro n
    have l1 := hi.le
    have l2 := hj.le
    by_cases hn : n < m.length
    · by_cases hw : n ∈ wi
      · rw [t3 n hw hn, hj.out n (by omega) (d1 n hw).2]
      · rw [t4 n (by omega) hw]
        by_cases hw2 : n ∈ wj
        · exact s3 n hw2 (by omega)
        · rw [s4 n hn hw2, hj.out n (by omega) hw2, hi.out n hn hw]
    · cases ai with
      | true =>
        have haj : aj = false := by
          rcases d3 with h | h
          · cases h
          · exact h
        have e1 : mj.length = m.length := by rw [s2, hj.noal haj]; omega
        have e2 := hj.noal haj
        have := t5 (n - m.length)
        rw [e1, show m.length + (n - m.length) = n by omega] at this
        rw [this]
        by_cases hn2 : n < mi.length
        · exact (hj.out n hn2 (fun h => hn (hjm n (.inr h)))).symm
        · rw [List.getElem?_eq_none (by omega), List.getElem?_eq_none (by omega)]
      | false =>
        have e1 := hi.noal rfl
        by_cases hn2 : n < mj.length
        · rw [t4 n hn2 (fun h => hn (hbi n (.inr h)))]
          have := s5 (n - m.length)
          rw [e1, show m.length + (n - m.length) = n by omega] at this
          exact this
        · rw [List.getElem?_eq_none (by omega), List.getElem?_eq_none (by omega)]
  rw [← this]
  exact t1

/-! ### Each operation -/

theorem cellsAt_loc {p : V} {m2 : Mem} (h : ∀ n, n ∈ nms p → m2[n]? = m[n]?) : cellsAt m2 p = cellsAt m p := by
  cases p <;> simp only [cellsAt]
  · rw [h _ (by simp [nms])]
  · rw [h _ (by simp [nms])]

theorem loadV_loc {t : TypeId} {p : V} {m2 : Mem} (h : ∀ n, n ∈ nms p → m2[n]? = m[n]?) : loadV P m2 t p = loadV P m t p := by
  unfold loadV; rw [cellsAt_loc h]

theorem storeV_loc {t : TypeId} {p v : V} {m' : Mem} (h : storeV P t m p v = some m') : ∃ n b, nms p = [n] ∧ n < m.length ∧ m' = m.set n b ∧ ∀ m2 : Mem, m2[n]? = m[n]? → storeV P t m2 p v = some (m2.set n b) := by
  unfold storeV at h
  split at h
  · cases h
  · rename_i inf hi
    cases hc : Nat.beq (cellsOfV v).length inf.size && cellsB v with
    | false => rw [hc] at h; cases h
    | true =>
      rw [hc] at h
      simp only [cond_true] at h
      split at h
      · rename_i n off
        split at h
        · rename_i ty l hm
          split at h
          · rename_i hb
            cases h
            refine ⟨n, _, rfl, (List.getElem?_eq_some_iff.1 hm).1, rfl, fun m2 h2 => ?_⟩
            unfold storeV
            rw [hi]
            simp only [hc, cond_true, h2, hm, hb, if_true]
          · cases h
        · cases h
      · rename_i sz n i off
        split at h
        · rename_i ty sz' es hm
          split at h
          · rename_i hs
            split at h
            · rename_i e he
              split at h
              · rename_i hb
                cases h
                refine ⟨n, _, rfl, (List.getElem?_eq_some_iff.1 hm).1, rfl, fun m2 h2 => ?_⟩
                unfold storeV
                rw [hi]
                simp only [hc, cond_true, h2, hm, hs, he, hb, if_true]
              · cases h
            · cases h
          · cases h
        · cases h
      · cases h

theorem Loc.store {S : Mem → V → Mem → Prop} {v : V} {n : Nat} {b : B} (hn : n < m.length) (h : ∀ m2 : Mem, m2[n]? = m[n]? → S m2 v (m2.set n b)) : Loc S [] [n] false m v (m.set n b) where
  le := by simp
  noal _ := by simp
  out k _ hk := by rw [List.getElem?_set_ne (fun e => hk (by simp [e]))]
  move m2 h1 _ := by
    have hm2 : n < m2.length := by
      have := h1 n (.inr (by simp))
      rw [List.getElem?_eq_getElem hn] at this
      exact (List.getElem?_eq_some_iff.1 this).1
    refine ⟨m2.set n b, h m2 (h1 n (.inr (by simp))), by simp, ?_, ?_, ?_⟩
    · intro k hk _
      simp at hk; subst hk
      rw [List.getElem?_set_self hm2, List.getElem?_set_self hn]
    · intro k _ hk
      rw [List.getElem?_set_ne (fun e => hk (by simp [e]))]
    · intro j
      rw [List.getElem?_eq_none (by simp), List.getElem?_eq_none (by simp)]

theorem Loc.new {S : Mem → V → Mem → Prop} {v : V} {b : B} (h : ∀ m2 : Mem, m2.length = m.length → S m2 v (m2 ++ [b])) : Loc S [] [] true m v (m ++ [b]) where
  le := by simp
  noal h := by cases h
  out k hk _ := by rw [List.getElem?_append_left hk]
  move m2 _ h2 := by
    have e := h2 rfl
    refine ⟨m2 ++ [b], h m2 e, by simp, by simp, fun k hk _ => by rw [List.getElem?_append_left hk], fun j => ?_⟩
    rw [List.getElem?_append_right (by omega), List.getElem?_append_right (by omega)]
    congr 1; omega

theorem contV_loc {sz : Nat} {x : V} {m2 : Mem} (h : ∀ n, n ∈ nms x → m2[n]? = m[n]?) : contV m2 sz x = contV m sz x := by
  cases x <;> simp only [contV]
  rw [h _ (by simp [nms])]

theorem frzP_nf : ∀ (ps : List (Nat × V)) (m : Mem), nfs (ps.map (·.2)) = true → frzP m ps = some (ps, m)
  | [], _, _ => rfl
  | (i, v) :: r, m, h => by
    simp only [List.map_cons, nfs, Bool.and_eq_true] at h
    have one : ∀ {v : V}, nf v = true → frz m v = some (v, m) := by
      intro v hv
      cases v <;> first | rfl | (simp [nf] at hv)
    have lst : ∀ {l : List V}, nfs l = true → frzL m l = some (l, m) := by
      intro l
      induction l with
      | nil => intro _; rfl
      | cons u s ih =>
        intro hl
        simp only [nfs, Bool.and_eq_true] at hl
        simp only [frzL, one hl.1, ih hl.2]
    have hv : frzV m v = some (v, m) := by
      unfold frzV
      split
      · simp only [nf] at h
        rw [lst h.1]
      · exact one h.1
    simp only [frzP, hv, frzP_nf r m h.2]

theorem appendV_loc {t u : TypeId} {s x v : V} {m' : Mem} (h : appendV P t u s x m = some (v, m')) :
    Loc (fun m v m' => appendV P t u s x m = some (v, m')) (nms x) (nms s) true m v m' := by
  have h0 := h
  unfold appendV at h
  split at h
  · rename_i e hu
    split at h
    · rename_i zl sz by_ hz
      cases hc : isSliceT P u with
      | false => rw [hc] at h; cases h
      | true =>
        rw [hc] at h
        simp only [cond_true] at h
        split at h
        · rename_i new hnew
          split at h
          · split at h
            · rename_i hl0
              cases h
              refine ⟨Nat.le_refl _, (fun h => by cases h), fun _ _ _ => rfl, fun m2 h1 h2 => ⟨m2, ?_, by omega, fun n hn => by simp [nms] at hn, fun _ _ _ => rfl, fun j => ?_⟩⟩
              · unfold appendV
                simp only [hu, hz, hc, cond_true, contV_loc (fun n hn => h1 n (.inl hn)), hnew, hl0, if_true]
              · rw [List.getElem?_eq_none (by omega), List.getElem?_eq_none (by omega)]
            · rename_i hl0
              split at h
              · rename_i hb
                cases h
                refine ⟨by simp, (fun h => by cases h), fun k hk _ => by rw [List.getElem?_append_left hk], fun m2 h1 h2 => ?_⟩
                have e2 := h2 rfl
                refine ⟨m2 ++ [.row e sz new], ?_, by simp, fun n hn => by simp [nms] at hn, fun k hk _ => by rw [List.getElem?_append_left hk], fun j => ?_⟩
                · unfold appendV
                  simp only [hu, hz, hc, cond_true, contV_loc (fun n hn => h1 n (.inl hn)), hnew, hl0, if_false, hb, and_self, if_true, e2]
                · rw [List.getElem?_append_right (by omega), List.getElem?_append_right (by omega)]
                  congr 1; omega
              · cases h
          · rename_i sz' n off len
            split at h
            · rename_i _ ty sz'' es hm
              cases hc2 : Nat.beq sz sz' && (Nat.beq sz sz'' && (Nat.beq ty e && Nat.beq (off + len) es.length)) with
              | false => rw [hc2] at h; cases h
              | true =>
                rw [hc2] at h
                simp only [cond_true] at h
                split at h
                · rename_i hb
                  cases h
                  have hn := (List.getElem?_eq_some_iff.1 hm).1
                  refine ⟨by simp, (fun h => by cases h), fun k hk hkn => ?_, fun m2 h1 h2 => ?_⟩
                  · rw [List.getElem?_append_left (by simpa using hk), List.getElem?_set_ne (fun e => hkn (by simp [nms, e]))]
                  · have e2 := h2 rfl
                    have hm2 : m2[n]? = some (.row ty sz'' es) := by rw [h1 n (.inr (by simp [nms]))]; exact hm
                    refine ⟨m2.set n .dead ++ [.row e sz (es.drop off ++ new)], ?_, by simp, fun k hk _ => ?_, fun k hk hkn => ?_, fun j => ?_⟩
                    · unfold appendV
                      simp only [hu, hz, hc, cond_true, contV_loc (fun n hn => h1 n (.inl hn)), hnew, hm2, hc2, hb, and_self, if_true, e2]
                    · simp only [nms, List.mem_singleton] at hk
                      subst hk
                      rw [List.getElem?_append_left (by simp; omega), List.getElem?_append_left (by simp; omega), List.getElem?_set_self (by omega), List.getElem?_set_self hn]
                    · rw [List.getElem?_append_left (by simpa using hk), List.getElem?_set_ne (fun e => hkn (by simp [nms, e]))]
                    · rw [List.getElem?_append_right (by simp), List.getElem?_append_right (by simp)]
                      congr 1; simp
                · cases h
            · cases h
          · cases h
        · cases h
    · cases h
  · cases h

/-- The names that are reached hang on the blocks that are reached. -/
theorem reach_loc {m2 : Mem} : ∀ (k : Nat) (todo seen : List Nat), (∀ n ∈ reach m k todo seen, m2[n]? = m[n]?) → reach m2 k todo seen = reach m k todo seen
  | 0, _, _, _ => rfl
  | _ + 1, [], _, _ => rfl
  | k + 1, n :: todo, seen, h => by
    simp only [reach] at h ⊢
    cases hc : seen.contains n with
    | true =>
      rw [hc] at h
      simp only [cond_true] at h ⊢
      exact reach_loc k todo seen h
    | false =>
      rw [hc] at h
      simp only [cond_false] at h ⊢
      have sub : ∀ (k : Nat) (todo seen : List Nat) (m : Mem) (x : Nat), x ∈ seen → x ∈ reach m k todo seen := by
        intro k
        induction k with
        | zero => intro todo seen m x hx; exact hx
        | succ k ih =>
          intro todo seen m x hx
          cases todo with
          | nil => exact hx
          | cons y ys =>
            simp only [reach]
            cases seen.contains y with
            | true => exact ih _ _ _ _ hx
            | false => exact ih _ _ _ _ (by simp [hx])
      have hn : m2[n]? = m[n]? := h n (sub _ _ _ _ _ (by simp))
      have hg : m2.getD n .dead = m.getD n .dead := by simp [List.getD, hn]
      rw [hg]
      exact reach_loc k _ _ h

end
end Go.Proofs.Ytnhejkfbnjopjaa.Ab
