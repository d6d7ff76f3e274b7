/- Answers told with their rows lent; calls on rows of flat memory. No condition. A call that leaves all as it was, and whose answer names nothing: told of whatever memory holds the same where it looks. No condition. The evaluator, run: what is closed is shown by running it. No condition. A region whose order is open, in which calls that come one behind the other may turn memory, and all else only looks. No condition. -/
import Derived.Test.YtjjenpdjmcmgbaaDAm8
namespace Go.Proofs.Ytjjenpdjmcmgbaa.Ab
open Go
set_option linter.unusedSimpArgs false
set_option linter.unusedVariables false
/-- An answer whose rows are told as rows that are not written again. -/
def lendT (m : Mem) : V → V
  | .tup l => .tup (l.map (lendV m))
  | v => lendV m v
theorem lend_any {N : Nat} {ρ : Pl} {I : Nat → Prop} {m : Mem} {w : World} (hr : Rep ρ I m w) {v : V} {x : Value} (hx : RV m.length ρ I w v x) (hn : nf (lendT m v) = true) :
    RV N ρ (fun b => I b ∨ Own ρ m b) w (lendT m v) x := by
  cases v with
  | tup l =>
    simp only [lendT, nf] at hn ⊢
    simp only [RV] at hx
    obtain ⟨c, h1, h2, h3⟩ := hx
    have h4 := lend_Rt hr h3 hn
    have : RV 0 (fun _ => (0, 0)) (fun b => I b ∨ Own ρ m b) w (.tup (l.map (lendV m))) x := by
      simp only [RV]
      exact ⟨c, h1, by simpa using h2, h4⟩
    exact RV_nf _ x (by simpa [nf] using hn) this
  | _ => exact RV_nf _ x hn (lend_RV hr hx hn)
end Go.Proofs.Ytjjenpdjmcmgbaa.Ab
namespace Go.Proofs.Ytjjenpdjmcmgbaa.Ab
open Go
set_option linter.unusedSimpArgs false
set_option linter.unusedVariables false
end Go.Proofs.Ytjjenpdjmcmgbaa.Ab
namespace Go.Proofs.Ytjjenpdjmcmgbaa.Ab
open Go
set_option linter.unusedSimpArgs false
set_option linter.unusedVariables false
section
variable (P : Program) (call : FuncId → List V → Mem → Option (List CR))
mutual
def eqV0 : V → V → Bool
  | .unk, .unk => true
  | .bool a, .bool b => a == b
  | .int j a, .int k b => decide (j = k) && decide (a = b)
  | .nilp, .nilp => true
  | .ptr a b, .ptr c d => Nat.beq a c && Nat.beq b d
  | .ep a b c d, .ep e f g h => Nat.beq a e && (Nat.beq b f && (Nat.beq c g && Nat.beq d h))
  | .ip a, .ip b => eqVs a b
  | .nils, .nils => true
  | .sl a b c d, .sl e f g h => Nat.beq a e && (Nat.beq b f && (Nat.beq c g && Nat.beq d h))
  | .isl a b, .isl c d => Nat.beq a c && eqVss b d
  | .nilm, .nilm => true
  | .mp a, .mp b => Nat.beq a b
  | .nilf, .nilf => true
  | .fn a b c, .fn d e f => Nat.beq a d && (eqVs b e && eqVs c f)
  | .nili, .nili => true
  | .ifc a b, .ifc c d => Nat.beq a c && eqV0 b d
  | .agg a, .agg b => eqVs a b
  | .tup a, .tup b => eqVs a b
  | _, _ => false
def eqVs : List V → List V → Bool
  | [], [] => true
  | a :: r, b :: s => eqV0 a b && eqVs r s
  | _, _ => false
def eqVss : List (List V) → List (List V) → Bool
  | [], [] => true
  | a :: r, b :: s => eqVs a b && eqVss r s
  | _, _ => false
end
def eqVp : List (V × V) → List (V × V) → Bool
  | [], [] => true
  | (a, c) :: r, (b, d) :: s => eqV0 a b && (eqV0 c d && eqVp r s)
  | _, _ => false
def eqNs : List Nat → List Nat → Bool
  | [], [] => true
  | a :: r, b :: s => Nat.beq a b && eqNs r s
  | _, _ => false
def eqB : B → B → Bool
  | .dead, .dead => true
  | .var a b, .var c d => Nat.beq a c && eqVs b d
  | .row a b c, .row d e f => Nat.beq a d && (Nat.beq b e && eqVss c f)
  | .map a b c, .map d e f => eqVp a d && (eqNs b e && Nat.beq c f)
  | .iter a b c d, .iter e f g h => Nat.beq a e && (Nat.beq b f && (eqNs c g && Nat.beq d h))
  | _, _ => false
def eqM : Mem → Mem → Bool
  | [], [] => true
  | a :: r, b :: s => eqB a b && eqM r s
  | _, _ => false
end
end Go.Proofs.Ytjjenpdjmcmgbaa.Ab
namespace Go.Proofs.Ytjjenpdjmcmgbaa.Ab
open Go
set_option linter.unusedSimpArgs false
set_option linter.unusedVariables false
/-- Each slot is set once, and looked at behind that alone, or (those of T) ahead of it alone. -/
def freshT (all : Array Oper) (T : List Nat) : Bool := (List.range all.size).all fun i => match all[i]? with
  | some o => (List.range all.size).all fun j => match all[j]? with
    | some oj => match oj.dst with
      | some t => (!(o.looksAt all).contains t || (bif T.contains t then (aheadO oj).contains i else (aheadO o).contains j)) && (Nat.beq i j || o.dst != some t)
      | none => true
    | none => true
  | none => true
def evT (T : List Nat) (E0 E : Env) : Env := fun t => bif T.contains t then E0 t else E t
/-- Each call comes behind the one ahead of it. -/
def seqB (all : Array Oper) (C : List Nat) : Bool := (List.range C.length).all fun p => match C[p]? with
  | some i => Nat.beq p 0 || (match all[i]?, C[p - 1]? with
    | some o, some j => (aheadO o).contains j
    | _, _ => false)
  | none => true
def putAll (env : Env) : List Oper → List V → Env
  | o :: r, v :: vs => putAll (put env o.dst v) r vs
  | _, _ => env
/-- What a turning operation comes to. -/
def NS (P : Program) (E : Env) (m : Mem) (op : Op) (K Kp : V → Mem → Prop) : Prop := match calleeV (evO E) op with
  | some (f, as) => callD P f as m K Kp
  | none => match execD P (evO E) m op with
    | some (.val u m') => K u m'
    | some (.skip m') => K (.tup []) m'
    | _ => False
/-- An operation that comes ahead of the turning one of this rank. -/
def tillB (all : Array Oper) (C : List Nat) (i p : Nat) : Bool := match C[p]? with
  | some c => match all[c]? with
    | some o => (aheadO o).contains i
    | none => false
  | none => Nat.ble C.length p
/-- What each operation comes to, in the state behind all of them. -/
def okN (P : Program) (all : Array Oper) (E : Env) (J : Nat → Mem → Prop) (Jp : V → Mem → Prop) (C : List Nat) : Nat → Nat → List Oper → List V → Prop
  | _, k, [], vs => vs = [] ∧ k = C.length
  | i, k, o :: r, v :: vs =>
    ((wantD all E o = some false ∧ v = .tup [] ∧ i ∉ C ∧ okN P all E J Jp C (i + 1) k r vs) ∨
     (wantD all E o = some true ∧ calleeV (evO E) o.op = none ∧ i ∉ C ∧ (∃ p, tillB all C i p = true ∧ ∀ k m, k ≤ p → J k m → execD P (evO E) m o.op = some (.val v m)) ∧ okN P all E J Jp C (i + 1) k r vs) ∨
     (wantD all E o = some true ∧ C[k]? = some i ∧ (∀ p, C[p]? = some i → p = k) ∧ (∀ m, J k m → NS P E m o.op (fun u m' => u = v ∧ J (k + 1) m') Jp) ∧ okN P all E J Jp C (i + 1) (k + 1) r vs))
  | _, _, _ :: _, [] => False
section
variable {P : Program} {all : Array Oper} {E : Env} {J : Nat → Mem → Prop} {Jp : V → Mem → Prop} {C : List Nat}
theorem okN_nil {i : Nat} : okN P all E J Jp C i C.length [] [] := ⟨rfl, rfl⟩
theorem okN_pure {i k : Nat} {o : Oper} {r : List Oper} {v : V} {vs : List V} (hw : wantD all E o = some true) (hc : calleeV (evO E) o.op = none) (hi : C.contains i = false) (hx : ∀ k m, J k m → execD P (evO E) m o.op = some (.val v m)) (h : okN P all E J Jp C (i + 1) k r vs) : okN P all E J Jp C i k (o :: r) (v :: vs) :=
  .inr (.inl ⟨hw, hc, (fun hh => Bool.noConfusion (hi.symm.trans (List.contains_iff_mem.2 hh))), ⟨C.length, by unfold tillB; rw [List.getElem?_eq_none (Nat.le_refl _)]; simp, fun k m _ => hx k m⟩, h⟩)
/-- An operation that only looks, ahead of the turning one of rank p. -/
theorem okN_early {i k : Nat} {o : Oper} {r : List Oper} {v : V} {vs : List V} (p : Nat) (hw : wantD all E o = some true) (hc : calleeV (evO E) o.op = none) (hi : C.contains i = false) (ht : tillB all C i p = true) (hx : ∀ k m, k ≤ p → J k m → execD P (evO E) m o.op = some (.val v m)) (h : okN P all E J Jp C (i + 1) k r vs) : okN P all E J Jp C i k (o :: r) (v :: vs) :=
  .inr (.inl ⟨hw, hc, (fun hh => Bool.noConfusion (hi.symm.trans (List.contains_iff_mem.2 hh))), ⟨p, ht, hx⟩, h⟩)
theorem okN_turn {i k : Nat} {o : Oper} {r : List Oper} {v : V} {vs : List V} (hw : wantD all E o = some true) (hi : C[k]? = some i) (hu : nodupB C = true) (hx : ∀ m, J k m → NS P E m o.op (fun u m' => u = v ∧ J (k + 1) m') Jp) (h : okN P all E J Jp C (i + 1) (k + 1) r vs) : okN P all E J Jp C i k (o :: r) (v :: vs) :=
  .inr (.inr ⟨hw, hi, fun p hp => by
    have hn := nodupB_iff _ hu
    exact (List.getElem?_inj (List.getElem?_eq_some_iff.1 hp).1 hn).1 (by rw [hp, hi]), hx, h⟩)
theorem okN_call {i k : Nat} {o : Oper} {r : List Oper} {v : V} {vs : List V} {f : FuncId} {args : List V} (hw : wantD all E o = some true) (hc : calleeV (evO E) o.op = some (f, args)) (hi : C[k]? = some i) (hu : nodupB C = true) (hx : ∀ m, J k m → callD P f args m (fun u m' => u = v ∧ J (k + 1) m') Jp) (h : okN P all E J Jp C (i + 1) (k + 1) r vs) : okN P all E J Jp C i k (o :: r) (v :: vs) :=
  okN_turn hw hi hu (fun m hm => by unfold NS; rw [hc]; exact hx m hm) h
theorem okN_val {i k : Nat} {o : Oper} {r : List Oper} {v : V} {vs : List V} (hw : wantD all E o = some true) (hc : calleeV (evO E) o.op = none) (hi : C[k]? = some i) (hu : nodupB C = true) (hx : ∀ m, J k m → ∃ m', execD P (evO E) m o.op = some (.val v m') ∧ J (k + 1) m') (h : okN P all E J Jp C (i + 1) (k + 1) r vs) : okN P all E J Jp C i k (o :: r) (v :: vs) :=
  okN_turn hw hi hu (fun m hm => by
    obtain ⟨m', h1, h2⟩ := hx m hm
    unfold NS
    rw [hc]
    simp only [h1]
    exact ⟨by trivial, h2⟩) h
theorem okN_skip {i k : Nat} {o : Oper} {r : List Oper} {vs : List V} (hw : wantD all E o = some true) (hc : calleeV (evO E) o.op = none) (hi : C[k]? = some i) (hu : nodupB C = true) (hx : ∀ m, J k m → ∃ m', execD P (evO E) m o.op = some (.skip m') ∧ J (k + 1) m') (h : okN P all E J Jp C (i + 1) (k + 1) r vs) : okN P all E J Jp C i k (o :: r) (.tup [] :: vs) :=
  okN_turn hw hi hu (fun m hm => by
    obtain ⟨m', h1, h2⟩ := hx m hm
    unfold NS
    rw [hc]
    simp only [h1]
    exact ⟨by trivial, h2⟩) h
theorem okN_at {i0 k0 : Nat} : ∀ {l : List Oper} {vs : List V} {i k : Nat}, okN P all E J Jp C i k l vs → ∀ (j : Nat) o, l[j]? = some o → ∃ v, vs[j]? = some v ∧
    ((wantD all E o = some false ∧ v = .tup [] ∧ (i + j) ∉ C) ∨
     (wantD all E o = some true ∧ calleeV (evO E) o.op = none ∧ (i + j) ∉ C ∧ ∃ p, tillB all C (i + j) p = true ∧ ∀ k m, k ≤ p → J k m → execD P (evO E) m o.op = some (.val v m)) ∨
     (wantD all E o = some true ∧ ∃ p, C[p]? = some (i + j) ∧ (∀ q, C[q]? = some (i + j) → q = p) ∧ ∀ m, J p m → NS P E m o.op (fun u m' => u = v ∧ J (p + 1) m') Jp))
  | [], _, _, _, _, j, o, ho => by simp at ho
  | o' :: r, [], _, _, h, _, _, _ => h.elim
  | o' :: r, v :: vs, i, k, h, 0, o, ho => by
    simp only [List.getElem?_cons_zero, Option.some.injEq] at ho
    subst ho
    refine ⟨v, rfl, ?_⟩
    rcases h with ⟨h1, h2, h3, _⟩ | ⟨h1, h2, h3, h4, _⟩ | ⟨h1, h2, h3, h4, _⟩
    · exact .inl ⟨h1, h2, h3⟩
    · exact .inr (.inl ⟨h1, h2, h3, h4⟩)
    · exact .inr (.inr ⟨h1, k, h2, h3, h4⟩)
  | o' :: r, v :: vs, i, k, h, j + 1, o, ho => by
    have e : i + (j + 1) = i + 1 + j := by omega
    rw [e]
    simp only [List.getElem?_cons_succ] at ho ⊢
    rcases h with ⟨_, _, _, h⟩ | ⟨_, _, _, _, h⟩ | ⟨_, _, _, _, h⟩
    · exact okN_at (i0 := i0) (k0 := k0) h j o ho
    · exact okN_at (i0 := i0) (k0 := k0) h j o ho
    · exact okN_at (i0 := i0) (k0 := k0) h j o ho
theorem putAll_out : ∀ {l : List Oper} {vs : List V} {env : Env} {t : Nat}, (∀ o ∈ l, o.dst ≠ some t) → putAll env l vs t = env t
  | [], _, _, _, _ => by simp [putAll]
  | _ :: _, [], _, _, _ => by simp [putAll]
  | o :: r, v :: vs, env, t, h => by
    rw [putAll, putAll_out fun o ho => h o (by simp [ho])]
    exact put_look fun k hk e => h o (by simp) (by rw [hk, e])
theorem putAll_at : ∀ {l : List Oper} {vs : List V} {env : Env} {j t : Nat} {o : Oper} {v : V}, l[j]? = some o → vs[j]? = some v → o.dst = some t → (∀ i o', l[i]? = some o' → o'.dst = some t → i = j) → putAll env l vs t = v
  | [], _, _, j, _, _, _, h, _, _, _ => by simp at h
  | _ :: _, [], _, j, _, _, _, _, h, _, _ => by simp at h
  | o' :: r, v' :: vs, env, 0, t, o, v, h1, h2, h3, h4 => by
    simp only [List.getElem?_cons_zero, Option.some.injEq] at h1 h2
    subst h1 h2
    rw [putAll, putAll_out fun o ho he => by
      obtain ⟨i, hi⟩ := List.getElem?_of_mem ho
      have := h4 (i + 1) o (by simpa using hi) he
      omega]
    rw [h3]
    simp [put, upd]
  | o' :: r, v' :: vs, env, j + 1, t, o, v, h1, h2, h3, h4 => by
    rw [putAll]
    exact putAll_at (j := j) (by simpa using h1) (by simpa using h2) h3 fun i o' hi he => by
      have := h4 (i + 1) o' (by simpa using hi) he
      omega
theorem freshT_look {T : List Nat} (h : freshT all T = true) {i j t : Nat} {o oj : Oper} (hi : all[i]? = some o) (hj : all[j]? = some oj) (ht : t ∈ o.looksAt all) (hd : oj.dst = some t) : (T.contains t = false ∧ j ∈ aheadO o) ∨ (T.contains t = true ∧ i ∈ aheadO oj) := by
  unfold freshT at h
  rw [List.all_eq_true] at h
  have h1 := h i (List.mem_range.2 (Array.getElem?_eq_some_iff.1 hi).1)
  rw [hi] at h1
  simp only [List.all_eq_true] at h1
  have h2 := h1 j (List.mem_range.2 (Array.getElem?_eq_some_iff.1 hj).1)
  rw [hj] at h2
  simp only [hd, Bool.and_eq_true, Bool.or_eq_true, Bool.not_eq_true'] at h2
  rcases h2.1 with h3 | h3
  · rw [List.contains_iff_mem.2 ht] at h3; cases h3
  · cases hT : T.contains t with
    | false => rw [hT] at h3; exact .inl ⟨rfl, List.contains_iff_mem.1 h3⟩
    | true => rw [hT] at h3; exact .inr ⟨rfl, List.contains_iff_mem.1 h3⟩
theorem freshB_dst {T : List Nat} (h : freshT all T = true) {i j t : Nat} {o oj : Oper} (hi : all[i]? = some o) (hj : all[j]? = some oj) (h1 : o.dst = some t) (h2 : oj.dst = some t) : i = j := by
  unfold freshT at h
  rw [List.all_eq_true] at h
  have h3 := h i (List.mem_range.2 (Array.getElem?_eq_some_iff.1 hi).1)
  rw [hi] at h3
  simp only [List.all_eq_true] at h3
  have h4 := h3 j (List.mem_range.2 (Array.getElem?_eq_some_iff.1 hj).1)
  rw [hj] at h4
  simp only [h2, Bool.and_eq_true, Bool.or_eq_true] at h4
  rcases h4.2 with h5 | h5
  · exact Nat.eq_of_beq_eq_true h5
  · rw [h1] at h5; simp at h5
theorem seqB_prev (h : seqB all C = true) {p i j : Nat} {o : Oper} (hi : C[p + 1]? = some i) (hj : C[p]? = some j) (ho : all[i]? = some o) : j ∈ aheadO o := by
  unfold seqB at h
  rw [List.all_eq_true] at h
  have h1 := h (p + 1) (List.mem_range.2 (List.getElem?_eq_some_iff.1 hi).1)
  rw [hi] at h1
  simp only [Nat.add_sub_cancel, ho, hj, Bool.or_eq_true] at h1
  rcases h1 with h1 | h1
  · simp at h1
  · exact List.contains_iff_mem.1 h1
theorem ahead_listed {o : Oper} {listed : Array Bool} (h : ∀ e ∈ o.after, Region.binds .any e = true → listed.getD e.on false = true) {j : Nat} (hj : j ∈ aheadO o) : listed.getD j false = true := by
  unfold aheadO at hj
  obtain ⟨e, he, rfl⟩ := List.mem_map.1 hj
  rw [List.mem_filter] at he
  exact h e (by simpa using he.1) he.2
/-- How far a run has come. -/
structure Far (all : Array Oper) (E0 E : Env) (J : Nat → Mem → Prop) (C : List Nat) (listed : Array Bool) (env : Env) (m : Mem) : Prop where
  size : listed.size = all.size
  new : ∀ (i : Nat) (o : Oper) (t : Nat), all[i]? = some o → o.dst = some t → listed.getD i false = true → env t = E t
  old : ∀ (t : Nat), (∀ (i : Nat) (o : Oper), all[i]? = some o → o.dst ≠ some t) → env t = E t
  pre : ∀ (i : Nat) (o : Oper) (t : Nat), all[i]? = some o → o.dst = some t → listed.getD i false = false → env t = E0 t
  up : ∀ (i : Nat) (o : Oper), all[i]? = some o → listed.getD i false = true → ∀ j ∈ aheadO o, listed.getD j false = true
  mem : ∃ k, k ≤ C.length ∧ J k m ∧ ∀ (p i : Nat), C[p]? = some i → (listed.getD i false = true ↔ p < k)
theorem getD_ff {listed : Array Bool} {i : Nat} (h : listed.getD i true = false) : i < listed.size ∧ listed.getD i false = false := by
  rcases Nat.lt_or_ge i listed.size with h' | h'
  · refine ⟨h', ?_⟩
    simp [h'] at h ⊢
    exact h
  · simp [Array.getElem?_eq_none h'] at h
theorem set_fuel {listed : Array Bool} {n i : Nat} (hs : listed.size = n) (h : listed.getD i true = false) : ((List.range n).filter fun j => !(listed.setIfInBounds i true).getD j false).length < ((List.range n).filter fun j => !listed.getD j false).length := by
  obtain ⟨h1, h2⟩ := getD_ff h
  have hsub : ((List.range n).filter fun j => !(listed.setIfInBounds i true).getD j false) = (((List.range n).filter fun j => !listed.getD j false).filter fun j => j != i) := by
    rw [List.filter_filter]
    refine List.filter_congr fun j _ => ?_
    by_cases hij : i = j
    · subst hij
      simp [h1]
    · rw [getD_set_ne false hij]
      simp [Ne.symm hij]
  rw [hsub]
  have hmem : i ∈ ((List.range n).filter fun j => !listed.getD j false) := List.mem_filter.2 ⟨List.mem_range.2 (by omega), by rw [h2]; rfl⟩
  rcases Nat.lt_or_ge ((((List.range n).filter fun j => !listed.getD j false).filter fun j => j != i).length) (((List.range n).filter fun j => !listed.getD j false).length) with h3 | h3
  · exact h3
  · have := List.filter_sublist (p := fun j => j != i) (l := (List.range n).filter fun j => !listed.getD j false)
    have h4 := this.eq_of_length_le h3
    rw [← h4, List.mem_filter] at hmem
    simp at hmem
theorem far_any {E0 : Env} {T : List Nat} (hF : freshT all T = true) (hE0 : ∀ (t : Nat), (∀ (i : Nat) (o : Oper), all[i]? = some o → o.dst ≠ some t) → E0 t = E t) (hS : seqB all C = true) (hL : Region.lexB .any all = true) (hC : C.all (fun i => Nat.blt i all.size) = true) {vs : List V} (hE : ∀ (i : Nat) (o : Oper) (t : Nat) (v : V), all[i]? = some o → o.dst = some t → vs[i]? = some v → E t = v) (hok : okN P all (evT T E0 E) J Jp C 0 0 all.toList vs)
    {K : Env → Mem → Prop} {Kp : V → Mem → Prop} (hK : ∀ m, J C.length m → K E m) (hKp : ∀ v m, Jp v m → Kp v m) :
    ∀ (fuel : Nat) (listed : Array Bool) (env : Env) (m : Mem), (((List.range all.size).filter fun i => !listed.getD i false).length ≤ fuel) → Far all E0 E J C listed env m → anyN P all K Kp fuel listed env m := by
  have hC' : ∀ i ∈ C, i < all.size := fun i hi => by
    rw [List.all_eq_true] at hC
    simpa using hC i hi
  have hend : ∀ (listed : Array Bool) (env : Env) (m : Mem), Far all E0 E J C listed env m → Region.ready .any all listed = [] → K env m := by
    intro listed env m hf hr
    have hall := all_listed (before_lex hL) hf.size hr
    have hall' : ∀ i, i < all.size → listed.getD i false = true := fun i hi => by
      have := hall i hi
      have hlt : i < listed.size := by rw [hf.size]; exact hi
      simp [hlt] at this ⊢
      exact this
    have he : env = E := by
      funext t
      by_cases h : ∃ (i : Nat) (o : Oper), all[i]? = some o ∧ o.dst = some t
      · obtain ⟨i, o, h1, h2⟩ := h
        exact hf.new i o t h1 h2 (hall' i (Array.getElem?_eq_some_iff.1 h1).1)
      · exact hf.old t fun i o h1 h2 => h ⟨i, o, h1, h2⟩
    obtain ⟨k, h0, h1, h2⟩ := hf.mem
    have : k = C.length := by
      rcases Nat.lt_or_ge k C.length with h | h
      · have h3 := (h2 k C[k] (List.getElem?_eq_getElem h)).1 (hall' _ (hC' _ (List.getElem_mem h)))
        exact absurd h3 (Nat.lt_irrefl _)
      · omega
    rw [he]
    exact hK m (by rw [← this]; exact h1)
  have hstep : ∀ (listed : Array Bool) (env : Env) (m : Mem) (i : Nat), Far all E0 E J C listed env m → i ∈ Region.ready .any all listed → ∃ o, all[i]? = some o ∧ NStep P all o env m (fun v m' => Far all E0 E J C (listed.setIfInBounds i true) (put env o.dst v) m') Jp := by
    intro listed env m i hf hi
    obtain ⟨hun, o, ho, haft⟩ := mem_ready.1 hi
    refine ⟨o, ho, ?_⟩
    obtain ⟨hlt, hun'⟩ := getD_ff hun
    have hlook : ∀ t ∈ o.looksAt all, env t = evT T E0 E t := fun t ht => by
      by_cases h : ∃ (j : Nat) (oj : Oper), all[j]? = some oj ∧ oj.dst = some t
      · obtain ⟨j, oj, h1, h2⟩ := h
        rcases freshT_look hF ho h1 ht h2 with ⟨h3, h4⟩ | ⟨h3, h4⟩
        · unfold evT
          rw [h3]
          exact hf.new j oj t h1 h2 (ahead_listed haft h4)
        · unfold evT
          rw [h3]
          refine hf.pre j oj t h1 h2 ?_
          cases h5 : listed.getD j false with
          | false => rfl
          | true =>
            have h6 := hf.up j oj h1 h5 i h4
            rw [hun'] at h6
            cases h6
      · have h1 := hf.old t fun j oj h1 h2 => h ⟨j, oj, h1, h2⟩
        unfold evT
        cases T.contains t with
        | false => exact h1
        | true => exact h1.trans (hE0 t fun j oj h2 h3 => h ⟨j, oj, h2, h3⟩).symm
    have hev : ∀ x ∈ o.op.operands, evO env x = evO (evT T E0 E) x := fun x hx => by
      cases x with
      | tmp t => exact hlook t (by
          unfold Oper.looksAt
          rw [List.mem_append]
          exact .inl (List.mem_filterMap.2 ⟨.tmp t, by simpa using hx, rfl⟩))
      | _ => rfl
    have hwant : wantD all env o = wantD all (evT T E0 E) o := by
      unfold wantD
      cases hg : o.guard with
      | none => rfl
      | some g =>
        obtain ⟨j, want⟩ := g
        simp only
        cases hd : (all[j]?).bind (·.dst) with
        | none => rfl
        | some d =>
          simp only
          rw [hlook d (by
            unfold Oper.looksAt
            rw [List.mem_append]
            exact .inr (by rw [hg]; simp [hd]))]
    have hput : ∀ v, (∀ t, o.dst = some t → E t = v) → ∀ (j : Nat) (oj : Oper) (t : Nat), all[j]? = some oj → oj.dst = some t → (listed.setIfInBounds i true).getD j false = true → put env o.dst v t = E t := fun v hv j oj t h1 h2 h3 => by
      by_cases hij : i = j
      · subst hij
        rw [ho] at h1
        cases h1
        rw [h2, hv t h2]
        simp [put, upd]
      · rw [getD_set_ne false hij] at h3
        rw [put_look fun k hk e => hij (freshB_dst hF ho h1 (by rw [hk, e]) h2)]
        exact hf.new j oj t h1 h2 h3
    have hpre : ∀ (v : V) (j : Nat) (oj : Oper) (t : Nat), all[j]? = some oj → oj.dst = some t → (listed.setIfInBounds i true).getD j false = false → put env o.dst v t = E0 t := fun v j oj t h1 h2 h3 => by
      by_cases hij : i = j
      · subst hij
        simp [hlt] at h3
      · rw [getD_set_ne false hij] at h3
        rw [put_look fun k hk e => hij (freshB_dst hF ho h1 (by rw [hk, e]) h2)]
        exact hf.pre j oj t h1 h2 h3
    have hold : ∀ (v : V) (t : Nat), (∀ (j : Nat) (oj : Oper), all[j]? = some oj → oj.dst ≠ some t) → put env o.dst v t = E t := fun v t h => by
      rw [put_look fun k hk e => h i o ho (by rw [hk, e])]
      exact hf.old t h
    obtain ⟨v, hv, hcase⟩ := okN_at (i0 := 0) (k0 := 0) hok i o (by rw [← Array.getElem?_toList] at ho; exact ho)
    rw [Nat.zero_add] at hcase
    have hEv : ∀ t, o.dst = some t → E t = v := fun t ht => hE i o t v ho ht hv
    obtain ⟨k, hk0, hk1, hk2⟩ := hf.mem
    have hstay : i ∉ C → ∀ (p j : Nat), C[p]? = some j → ((listed.setIfInBounds i true).getD j false = true ↔ p < k) := fun hc p j hj => by
      rw [getD_set_ne false (fun e => hc (by rw [e]; exact List.mem_of_getElem? hj))]
      exact hk2 p j hj
    have hsz : (listed.setIfInBounds i true).size = all.size := by simp [hf.size]
    have hset : ∀ j, listed.getD j false = true → (listed.setIfInBounds i true).getD j false = true := fun j hj => by
      by_cases hij : i = j
      · subst hij; simp [hlt]
      · rw [getD_set_ne false hij]; exact hj
    have hup : ∀ (i' : Nat) (o' : Oper), all[i']? = some o' → (listed.setIfInBounds i true).getD i' false = true → ∀ j ∈ aheadO o', (listed.setIfInBounds i true).getD j false = true := fun i' o' h1 h2 j hj => by
      by_cases hij : i = i'
      · subst hij
        rw [ho] at h1
        cases h1
        exact hset _ (ahead_listed haft hj)
      · rw [getD_set_ne false hij] at h2
        exact hset _ (hf.up i' o' h1 h2 j hj)
    unfold NStep
    rw [hwant]
    rcases hcase with ⟨h1, h2, h3⟩ | ⟨h1, h2, h3, p, h4, h5⟩ | ⟨h1, p, h2, h3, h4⟩
    · rw [h1]
      exact ⟨hsz, hput _ fun t ht => by rw [hEv t ht, h2], hold _, hpre _, hup, k, hk0, hk1, hstay h3⟩
    · rw [h1]
      simp only
      have hkp : k ≤ p := by
        unfold tillB at h4
        split at h4
        · rename_i c hc
          split at h4
          · rename_i oc hoc
            rcases Nat.lt_or_ge p k with h6 | h6
            · have h7 := hf.up c oc hoc ((hk2 p c hc).2 h6) i (List.contains_iff_mem.1 h4)
              rw [hun'] at h7
              cases h7
            · exact h6
          · cases h4
        · exact Nat.le_trans hk0 (Nat.le_of_ble_eq_true h4)
      rw [calleeV_congr hev, h2, execD_congr hev, h5 k m hkp hk1]
      exact ⟨hsz, hput _ hEv, hold _, hpre _, hup, k, hk0, hk1, hstay h3⟩
    · rw [h1]
      simp only
      rw [calleeV_congr hev, execD_congr hev]
      have hpk : p = k := by
        have g1 : ¬ p < k := fun hh => by rw [(hk2 p i h2).2 hh] at hun'; cases hun'
        cases p with
        | zero => omega
        | succ q =>
          have hq : q < C.length := by have := (List.getElem?_eq_some_iff.1 h2).1; omega
          have := (hk2 q C[q] (List.getElem?_eq_getElem hq)).1 (ahead_listed haft (seqB_prev hS h2 (List.getElem?_eq_getElem hq) ho))
          omega
      subst hpk
      have hfar : ∀ u m', (u = v ∧ J (p + 1) m') → Far all E0 E J C (listed.setIfInBounds i true) (put env o.dst u) m' := fun u m' hu => by
        obtain ⟨rfl, hj⟩ := hu
        refine ⟨hsz, hput _ hEv, hold _, hpre _, hup, p + 1, (List.getElem?_eq_some_iff.1 h2).1, hj, fun q j hq => ?_⟩
        by_cases hij : i = j
        · subst hij
          have := h3 q hq
          subst this
          simp [hlt]
        · rw [getD_set_ne false hij, hk2 q j hq]
          have : q ≠ p := fun e => hij (by rw [e, h2] at hq; cases hq; rfl)
          omega
      have h5 := h4 m hk1
      unfold NS at h5
      cases hc : calleeV (evO (evT T E0 E)) o.op with
      | some fa =>
        obtain ⟨f, args⟩ := fa
        rw [hc] at h5
        exact callD_monoK (fun u m' hu => hfar u m' hu) h5
      | none =>
        rw [hc] at h5
        simp only at h5 ⊢
        split at h5
        · rename_i u m' hx
          rw [hx]
          exact hfar _ _ h5
        · rename_i m' hx
          rw [hx]
          exact hfar _ _ h5
        · exact h5.elim
  intro fuel
  induction fuel with
  | zero =>
    intro listed env m hfu hf
    have hr : Region.ready .any all listed = [] := by
      cases h : Region.ready .any all listed with
      | nil => rfl
      | cons i r =>
        have hi : i ∈ Region.ready .any all listed := by rw [h]; simp
        have := set_fuel hf.size (mem_ready.1 hi).1
        omega
    exact ⟨hr, hend _ _ _ hf hr⟩
  | succ n ih =>
    intro listed env m hfu hf
    refine ⟨fun hr => hend _ _ _ hf hr, fun i hi => ?_⟩
    obtain ⟨o, ho, hs⟩ := hstep listed env m i hf hi
    refine ⟨o, ho, NStep_mono (fun v m' h => ih _ _ _ ?_ h) hKp hs⟩
    have := set_fuel hf.size (mem_ready.1 hi).1
    omega
/-- A region with calls in a row. -/
theorem w_callsT {K0 : Nat} {R : List Nat} {Ex : Nat → List Nat} {L : List Nat} {Q : Ab.Ex → Env → Mem → Prop} {id : Nat} {l : List Oper} {env : Env} {m : Mem} (J : Nat → Mem → Prop) (Jp : V → Mem → Prop) (C T : List Nat) (vs : List V)
    (hB : (freshT l.toArray T && (seqB l.toArray C && (Region.lexB .any l.toArray && C.all (fun i => Nat.blt i l.toArray.size)))) = true) (h0 : J 0 m) (hok : okN P l.toArray (evT T env (putAll env l vs)) J Jp C 0 0 l vs)
    (hK : ∀ m', J C.length m' → Q .nrm (putAll env l vs) m') (hKp : ∀ v m', Jp v m' → Q (.pan v) (wipe l.toArray env) m') : W P K0 R (.region id l.toArray true) Ex L env m Q := by
  simp only [Bool.and_eq_true] at hB
  obtain ⟨b1, b2, b3, b4⟩ := hB
  have hrep : ∀ i, (Array.replicate l.toArray.size false).getD i false = false := fun i => by
    rw [Array.getD_eq_getD_getElem?, Array.getElem?_replicate]
    split <;> rfl
  refine .inr (.inr (.inr (far_any (E0 := env) b1 (fun t h => (putAll_out fun o ho e => by
      obtain ⟨i, hi⟩ := List.getElem?_of_mem ho
      exact h i o (by simpa using hi) e).symm) b2 b3 b4 (E := putAll env l vs) (vs := vs) (fun i o t v h1 h2 h3 => putAll_at (j := i) (o := o) (by simpa using h1) h3 h2 fun i' o' h4 h5 => freshB_dst b1 (by simpa using h4) h1 h5 h2) (by simpa using hok) hK hKp _ _ env m ?_ ⟨by simp, fun i o t h1 h2 h3 => ?_, fun t h => ?_, fun i o t h1 h2 h3 => rfl, fun i o h1 h2 => ?_, 0, Nat.zero_le _, h0, fun p i hp => ?_⟩)))
  · exact Nat.le_trans (List.length_filter_le _ _) (by simp)
  · rw [hrep] at h3; cases h3
  · exact (putAll_out fun o ho e => by
      obtain ⟨i, hi⟩ := List.getElem?_of_mem ho
      exact h i o (by simpa using hi) e).symm
  · rw [hrep] at h2; cases h2
  · rw [hrep]; simp
theorem w_callsP {K0 : Nat} {R : List Nat} {Ex : Nat → List Nat} {L : List Nat} {Q : Ab.Ex → Env → Mem → Prop} {id : Nat} {l : List Oper} {env : Env} {m : Mem} (J : Nat → Mem → Prop) (Jp : V → Mem → Prop) (C : List Nat) (vs : List V)
    (hB : (freshT l.toArray [] && (seqB l.toArray C && (Region.lexB .any l.toArray && C.all (fun i => Nat.blt i l.toArray.size)))) = true) (h0 : J 0 m) (hok : okN P l.toArray (putAll env l vs) J Jp C 0 0 l vs)
    (hK : ∀ m', J C.length m' → Q .nrm (putAll env l vs) m') (hKp : ∀ v m', Jp v m' → Q (.pan v) (wipe l.toArray env) m') : W P K0 R (.region id l.toArray true) Ex L env m Q := w_callsT J Jp C [] vs hB h0 hok hK hKp
theorem w_calls {K0 : Nat} {R : List Nat} {Ex : Nat → List Nat} {L : List Nat} {Q : Ab.Ex → Env → Mem → Prop} {id : Nat} {l : List Oper} {env : Env} {m : Mem} (J : Nat → Mem → Prop) (C : List Nat) (vs : List V)
    (hB : (freshT l.toArray [] && (seqB l.toArray C && (Region.lexB .any l.toArray && C.all (fun i => Nat.blt i l.toArray.size)))) = true) (h0 : J 0 m) (hok : okN P l.toArray (putAll env l vs) J (fun _ _ => False) C 0 0 l vs)
    (hK : ∀ m', J C.length m' → Q .nrm (putAll env l vs) m') : W P K0 R (.region id l.toArray true) Ex L env m Q := w_callsP J _ C vs hB h0 hok hK fun _ _ h => h.elim
end
end Go.Proofs.Ytjjenpdjmcmgbaa.Ab
