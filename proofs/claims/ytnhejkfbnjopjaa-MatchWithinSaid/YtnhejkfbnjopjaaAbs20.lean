/- Regions with writes, run by rewriting; rows of whole numbers told by a function. No condition. -/
import Derived.Test.YtnhejkfbnjopjaaAbs19
import Derived.Laws.Bits64
import Derived.Laws.Bits64b
namespace Go.Proofs.Ytnhejkfbnjopjaa.Ab
open Go
set_option linter.unusedSimpArgs false
set_option linter.unusedVariables false

def isPure (i : Info) : Bool := i.rd.isEmpty && (i.wr.isEmpty && !i.al)

/-- A drawn region with writes; what touches nothing is not kept. -/
def runE (P : Program) (all : Array Oper) (K : Env → Mem → Prop) : Nat → List (Nat × Info × Nat) → List Oper → Env → Mem → Prop
  | _, _, [], env, m => K env m
  | k, acc, o :: r, env, m => match wantD all env o with
    | none => False
    | some false => runE P all K (k + 1) acc r (put env o.dst (.tup [])) m
    | some true => match calleeV (evO env) o.op with
      | some (f, vs) => callQ P f vs fun v => runE P all K (k + 1) acc r (put env o.dst v) m
      | none => panicV (evO env) o.op = none ∧ match execD P (evO env) m o.op with
        | some (.val v m1) => (match infoD (evO env) m o.op v with
          | some inf => accB acc o inf m.length = true ∧ runE P all K (k + 1) (bif isPure inf then acc else (k, inf, m.length) :: acc) r (put env o.dst v) m1
          | none => False)
        | some (.skip m1) => (match infoD (evO env) m o.op (.tup []) with
          | some inf => accB acc o inf m.length = true ∧ runE P all K (k + 1) (bif isPure inf then acc else (k, inf, m.length) :: acc) r (put env o.dst (.tup [])) m1
          | none => False)
        | none => False

section
variable {P : Program} {all : Array Oper} {r : List Oper} {env : Env} {m : Mem} {K : Env → Mem → Prop} {d : Option Nat} {ty : TypeId} {pos : String} {af : Array Edge} {k : Nat} {acc : List (Nat × Info × Nat)}

@[congr] theorem runE_congr {tk : Prop} {l : List Oper} {env' : Env} {m' : Mem} (h1 : env = env') (h2 : m = m') (htk : tick = tk) : runE P all K k acc l env m = runE P all K k acc l env' m' := by rw [h1, h2]

theorem indep_pure {i : Info} (h : isPure i = true) (n : Nat) (j : Info) : indep i n j = true := by
  obtain ⟨rd, wr, al⟩ := i
  unfold isPure at h
  simp only [Bool.and_eq_true, List.isEmpty_iff, Bool.not_eq_true'] at h
  obtain ⟨rfl, rfl, rfl⟩ := h
  rfl

theorem runE_drawn : ∀ (l : List Oper) (k : Nat) (acc acc' : List (Nat × Info × Nat)) (env : Env) (m : Mem), (∀ x ∈ acc', x ∈ acc ∨ isPure x.2.1 = true) → runE P all K k acc l env m → runDrawn P all K k acc' l env m
  | [], _, _, _, _, _, _, h => h
  | o :: r, k, acc, acc', env, m, ha, h => by
    have more : ∀ {inf : Info}, accB acc o inf m.length = true → acc'.all (fun x => waits o x.1 || indep x.2.1 x.2.2 inf) = true := by
      intro inf hb
      unfold accB at hb
      rw [Bool.and_eq_true] at hb
      rw [List.all_eq_true] at hb ⊢
      rw [List.all_eq_true] at hb
      intro x hx
      rcases ha x hx with h1 | h1
      · exact hb.2 x h1
      · simp [indep_pure h1]
    have more2 : ∀ (inf : Info) (x : Nat × Info × Nat), x ∈ (k, inf, m.length) :: acc' → x ∈ (bif isPure inf then acc else (k, inf, m.length) :: acc) ∨ isPure x.2.1 = true := by
      intro inf x hx
      cases hp : isPure inf with
      | true =>
        rcases List.mem_cons.1 hx with rfl | hx
        · exact .inr hp
        · exact ha x hx
      | false =>
        rcases List.mem_cons.1 hx with rfl | hx
        · exact .inl (by simp)
        · rcases ha x hx with h1 | h1
          · exact .inl (by simp [h1])
          · exact .inr h1
    simp only [runE] at h
    simp only [runDrawn]
    cases hw : wantD all env o with
    | none => rw [hw] at h; exact h.elim
    | some bw =>
      cases bw with
      | false => rw [hw] at h; exact runE_drawn r (k + 1) acc acc' _ _ ha h
      | true =>
        rw [hw] at h
        simp only at h ⊢
        split at h
        · rename_i f vs hc
          obtain ⟨h1, h2, v, h3, h4, h5⟩ := h
          have hroots : rootsV m vs = [] := by unfold rootsV; rw [nfs_nmss vs h1]; rfl
          refine ⟨v, m, ⟨[], [], false⟩, stepV_ans hc h4 h2 h1 h3, ⟨?_, ?_, by simp, ?_⟩, runE_drawn r (k + 1) _ _ _ _ (fun x hx => ?_) h5⟩
          · unfold calleeV at hc
            split at hc
            · rename_i hop; rw [hop]; rfl
            · cases hc
          · unfold infoD; rw [hc]; simp [hroots, h3]
          · rw [List.all_eq_true]
            intro x _
            simp [indep, disj]
          · rcases List.mem_cons.1 hx with rfl | hx
            · exact .inr rfl
            · exact ha x hx
        · rename_i hc
          obtain ⟨hp, h⟩ := h
          split at h
          · rename_i v m1 hx
            split at h
            · rename_i inf hinf
              obtain ⟨ha1, h⟩ := h
              refine ⟨v, m1, inf, by unfold StepV; rw [hc, hx]; exact ⟨rfl, rfl⟩, ⟨hp, hinf, ?_, more ha1⟩, runE_drawn r (k + 1) _ _ _ _ (more2 inf) h⟩
              unfold accB at ha1
              rw [Bool.and_eq_true] at ha1
              exact ha1.1
            · exact h.elim
          · rename_i m1 hx
            split at h
            · rename_i inf hinf
              obtain ⟨ha1, h⟩ := h
              refine ⟨.tup [], m1, inf, by unfold StepV; rw [hc, hx]; exact ⟨rfl, rfl⟩, ⟨hp, hinf, ?_, more ha1⟩, runE_drawn r (k + 1) _ _ _ _ (more2 inf) h⟩
              unfold accB at ha1
              rw [Bool.and_eq_true] at ha1
              exact ha1.1
            · exact h.elim
          · exact h.elim

theorem w_noisy {K0 : Nat} {R : List Nat} {E : Nat → List Nat} {L : List Nat} {Q : Ex → Env → Mem → Prop} {id : Nat} {l : List Oper} (h : runE P l.toArray (Q .nrm) 0 [] l env m) : W P K0 R (.region id l.toArray true) E L env m Q :=
  runE_drawn l 0 [] [] env m (by simp) h

theorem accB_pure (o : Oper) (n : Nat) : accB acc o ⟨[], [], false⟩ n = true := by
  unfold accB
  rw [Bool.and_eq_true]
  refine ⟨rfl, ?_⟩
  rw [List.all_eq_true]
  intro x _
  simp [indep, disj]

theorem e_nil : runE P all K k acc [] env m = K env m := rfl
theorem e_pure {op : Op} {o : Option V} (hp : panicV (evO env) op = none) (h2 : calleeV (evO env) op = none) (h3 : execD P (evO env) m op = o.map (Res.val · m)) (h4 : ∀ v, infoD (evO env) m op v = some ⟨[], [], false⟩) :
    runE P all K k acc (⟨d, op, ty, pos, af, none⟩ :: r) env m = bindO o fun v => runE P all K (k + 1) acc r (put env d v) m := by
  simp only [runE, wantD, h2, h3, hp]
  cases o with
  | none => simp [bindO]
  | some v => simp [h4, bindO, accB_pure, isPure]
theorem e_move {x : Operand} : runE P all K k acc (⟨d, .move x, ty, pos, af, none⟩ :: r) env m = runE P all K (k + 1) acc r (put env d (evO env x)) m := e_pure (o := some _) rfl rfl rfl fun _ => rfl
theorem e_assign {x : Operand} : runE P all K k acc (⟨d, .assign x, ty, pos, af, none⟩ :: r) env m = runE P all K (k + 1) acc r (put env d (evO env x)) m := e_pure (o := some _) rfl rfl rfl fun _ => rfl
theorem e_pick {c x y : Operand} : runE P all K k acc (⟨d, .pick c x y, ty, pos, af, none⟩ :: r) env m = boolK (evO env c) fun t => runE P all K (k + 1) acc r (put env d (pickV t (evO env x) (evO env y))) m := by
  simp only [runE, wantD, calleeV, execD, panicV]
  cases evO env c <;> simp [boolK, infoD, calleeV, accB_pure, isPure]
theorem e_build {t : TypeId} {ps : List (Nat × Operand)} : runE P all K k acc (⟨d, .build t ps.toArray, ty, pos, af, none⟩ :: r) env m = bindO (buildV P t (ps.map fun p => (p.1, evO env p.2))) fun v => runE P all K (k + 1) acc r (put env d v) m := e_pure rfl rfl rfl fun _ => rfl
theorem e_binOp {b : BinOp} {t u : TypeId} {x y : Operand} : runE P all K k acc (⟨d, .binOp b t x y u, ty, pos, af, none⟩ :: r) env m = bindO (binV P b t (evO env x) (evO env y)) fun v => runE P all K (k + 1) acc r (put env d v) m := e_pure rfl rfl rfl fun _ => rfl
theorem e_unOp {b : UnOp} {t : TypeId} {x : Operand} : runE P all K k acc (⟨d, .unOp b t x, ty, pos, af, none⟩ :: r) env m = bindO (unV b (evO env x)) fun v => runE P all K (k + 1) acc r (put env d v) m := e_pure rfl rfl rfl fun _ => rfl
theorem e_convert {s t : TypeId} {x : Operand} : runE P all K k acc (⟨d, .convert s t x, ty, pos, af, none⟩ :: r) env m = bindO (convV P s t (evO env x)) fun v => runE P all K (k + 1) acc r (put env d v) m := e_pure rfl rfl rfl fun _ => rfl
theorem e_slice {t : TypeId} {x : Operand} {lo hi : Option Operand} : runE P all K k acc (⟨d, .slice t x lo hi none, ty, pos, af, none⟩ :: r) env m = bindO (sliceV P t (evO env x) (lo.map (evO env)) (hi.map (evO env))) fun v => runE P all K (k + 1) acc r (put env d v) m := e_pure rfl rfl rfl fun _ => rfl
theorem e_fieldAddr {t : TypeId} {x : Operand} {f : Nat} : runE P all K k acc (⟨d, .fieldAddr t x f, ty, pos, af, none⟩ :: r) env m = bindO (faddrV P t f (evO env x)) fun v => runE P all K (k + 1) acc r (put env d v) m := e_pure rfl rfl rfl fun _ => rfl
theorem e_field {t : TypeId} {x : Operand} {f : Nat} : runE P all K k acc (⟨d, .field t x f, ty, pos, af, none⟩ :: r) env m = bindO (fieldV P t f (evO env x)) fun v => runE P all K (k + 1) acc r (put env d v) m := e_pure rfl rfl rfl fun _ => rfl
theorem e_indexAddr {t : TypeId} {x y : Operand} : runE P all K k acc (⟨d, .indexAddr t x y, ty, pos, af, none⟩ :: r) env m = bindO (iaddrV P t (evO env x) (evO env y)) fun v => runE P all K (k + 1) acc r (put env d v) m := e_pure rfl rfl rfl fun _ => rfl
theorem e_index {t : TypeId} {x y : Operand} : runE P all K k acc (⟨d, .index t x y, ty, pos, af, none⟩ :: r) env m = bindO (indexV P t (evO env x) (evO env y)) fun v => runE P all K (k + 1) acc r (put env d v) m := e_pure rfl rfl rfl fun _ => rfl
theorem e_extract {x : Operand} {i : Nat} : runE P all K k acc (⟨d, .extract x i, ty, pos, af, none⟩ :: r) env m = bindO (extractV i (evO env x)) fun v => runE P all K (k + 1) acc r (put env d v) m := e_pure rfl rfl rfl fun _ => rfl

/-- The order's own question. -/
def orderP (b : Bool) (p : Prop) : Prop := b = true ∧ p
@[congr] theorem orderP_congr {tk : Prop} {b b' : Bool} {p : Prop} (h : b = b') (htk : tick = tk) : orderP b p = orderP b' p := by rw [h]
@[simp] theorem orderP_true (p : Prop) : orderP true p = p := by simp [orderP]
theorem orderP_of {b : Bool} {p : Prop} (h : b = true) (hp : p) : orderP b p := ⟨h, hp⟩

theorem e_load {t : TypeId} {x : Operand} : runE P all K k acc (⟨d, .load t x, ty, pos, af, none⟩ :: r) env m =
    bindO (loadV P m t (evO env x)) fun v => orderP (accB acc ⟨d, .load t x, ty, pos, af, none⟩ ⟨nms (evO env x), [], false⟩ m.length) (runE P all K (k + 1) (bif isPure ⟨nms (evO env x), [], false⟩ then acc else (k, ⟨nms (evO env x), [], false⟩, m.length) :: acc) r (put env d v) m) := by
  simp only [runE, wantD, calleeV, execD, panicV, infoD, orderP, bindO]
  cases loadV P m t (evO env x) <;> simp
theorem e_store {t : TypeId} {x y : Operand} : runE P all K k acc (⟨none, .store t x y, ty, pos, af, none⟩ :: r) env m =
    bindO (storeV P t m (evO env x) (evO env y)) fun m' => orderP (accB acc ⟨none, .store t x y, ty, pos, af, none⟩ ⟨[], nms (evO env x), false⟩ m.length) (runE P all K (k + 1) (bif isPure ⟨[], nms (evO env x), false⟩ then acc else (k, ⟨[], nms (evO env x), false⟩, m.length) :: acc) r env m') := by
  simp only [runE, wantD, calleeV, execD, panicV, infoD, orderP, bindO, put]
  cases storeV P t m (evO env x) (evO env y) <;> simp
theorem e_alloc {t : TypeId} : runE P all K k acc (⟨d, .alloc t, ty, pos, af, none⟩ :: r) env m =
    bindO (allocV P t m) fun p => orderP (accB acc ⟨d, .alloc t, ty, pos, af, none⟩ ⟨[], [], true⟩ m.length) (runE P all K (k + 1) ((k, ⟨[], [], true⟩, m.length) :: acc) r (put env d p.1) p.2) := by
  simp only [runE, wantD, calleeV, execD, panicV, infoD, orderP, bindO]
  cases allocV P t m <;> simp [isPure]
theorem e_box {t : TypeId} {x : Operand} : runE P all K k acc (⟨d, .box t x, ty, pos, af, none⟩ :: r) env m =
    bindO (newV t m (evO env x)) fun p => orderP (accB acc ⟨d, .box t x, ty, pos, af, none⟩ ⟨[], [], true⟩ m.length) (runE P all K (k + 1) ((k, ⟨[], [], true⟩, m.length) :: acc) r (put env d p.1) p.2) := by
  simp only [runE, wantD, calleeV, execD, panicV, infoD, orderP, bindO]
  cases newV t m (evO env x) <;> simp [isPure]
theorem e_call {f : Operand} {args : List Operand} {ts : Array TypeId} : runE P all K k acc (⟨d, .call { callee := .value f, args := args.toArray, argTypes := ts }, ty, pos, af, none⟩ :: r) env m =
    bindO (calleeK (evO env) f args) fun p => callQ P p.1 p.2 fun v => runE P all K (k + 1) acc r (put env d v) m := by
  simp only [runE, wantD, calleeV, calleeK, execD, panicV]
  cases evO env f <;> simp [bindO]
theorem e_guard {op : Op} {j : Nat} {want : Bool} (hp : ∀ v, infoD (evO env) m op v = some ⟨[], [], false⟩ ∨ infoD (evO env) m op v = none) : runE P all K k acc (⟨d, op, ty, pos, af, some (j, want)⟩ :: r) env m =
    bindO (wantD all env ⟨d, op, ty, pos, af, some (j, want)⟩) fun b => testP b (runE P all K k acc (⟨d, op, ty, pos, af, none⟩ :: r) env m) (runE P all K (k + 1) acc r (put env d (.tup [])) m) := by
  have : wantD all env ⟨d, op, ty, pos, af, none⟩ = some true := rfl
  simp only [runE, this]
  cases wantD all env ⟨d, op, ty, pos, af, some (j, want)⟩ with
  | none => rfl
  | some b =>
    cases b
    · simp only [bindO_some, testP_false]
    · simp only [bindO_some, testP_true]
      split
      · rfl
      · split
        · rename_i v _ _
          rcases hp v with h | h <;> simp [h, accB_pure]
        · rcases hp (.tup []) with h | h <;> simp [h, accB_pure]
        · rfl
end

/-! ### Rows of whole numbers -/

def cl (k : IntKind) (n : Nat) (f : Nat → Int) : List V := (List.range n).map fun i => V.int k (f i)

def ub (f : Nat → Int) (i : Nat) (v : Int) : Nat → Int := fun j => if j = i then v else f j

section
variable {k : IntKind} {n : Nat} {f : Nat → Int}
@[simp] theorem cl_length : (cl k n f).length = n := by simp [cl]
theorem cl_get {i : Nat} (h : i < n) : (cl k n f)[i]? = some (.int k (f i)) := by simp [cl, h]
theorem cl_getD {i : Nat} (h : i < n) {d : V} : (cl k n f).getD i d = .int k (f i) := by simp [List.getD, cl_get h]
theorem cl_part {a s : Nat} (h : a + s ≤ n) : ((cl k n f).drop a).take s = cl k s fun i => f (a + i) := by
  apply List.ext_getElem?
  intro j
  by_cases hj : j < s
  · rw [List.getElem?_take_of_lt hj, List.getElem?_drop, cl_get (by omega), cl_get hj]
  · rw [List.getElem?_eq_none (by simp; omega), List.getElem?_eq_none (by simp; omega)]
theorem cl_ub {i : Nat} {v : Int} (h : i < n) : (cl k n f).set i (.int k v) = cl k n (ub f i v) := by
  apply List.ext_getElem?
  intro j
  by_cases hj : j < n
  · rw [cl_get hj]
    by_cases hij : i = j
    · subst hij; rw [List.getElem?_set_self (by simpa using h)]; simp [ub]
    · rw [List.getElem?_set_ne hij, cl_get hj]; simp [ub, Ne.symm hij]
  · rw [List.getElem?_eq_none (by simp; omega), List.getElem?_eq_none (by simp; omega)]
theorem cl_congr {g : Nat → Int} (h : ∀ i, i < n → f i = g i) : cl k n f = cl k n g := by
  apply List.ext_getElem?
  intro j
  by_cases hj : j < n
  · rw [cl_get hj, cl_get hj, h j hj]
  · rw [List.getElem?_eq_none (by simp; omega), List.getElem?_eq_none (by simp; omega)]
theorem cl_inj {g : Nat → Int} (h : cl k n f = cl k n g) : ∀ i, i < n → f i = g i := by
  intro i hi
  have : (cl k n f)[i]? = (cl k n g)[i]? := by rw [h]
  rw [cl_get hi, cl_get hi] at this
  simpa using this
theorem nfs_cl : nfs (cl k n f) = true := by
  unfold cl
  induction List.range n with
  | nil => rfl
  | cons x r ih => simp [nfs, nf, ih]
theorem lits_eq (k : IntKind) (f g : Nat → Int) (n : Nat) : litsEq ((List.range n).map fun i => Lit.int k (f i)) ((List.range n).map fun i => Lit.int k (g i)) = decide (∀ i, i < n → f i = g i) := by
  rw [Bool.eq_iff_iff, litsEq_iff, decide_eq_true_iff]
  constructor
  · intro h i hi
    have : ((List.range n).map fun i => Lit.int k (f i))[i]? = ((List.range n).map fun i => Lit.int k (g i))[i]? := by rw [h]
    simpa [hi] using this
  · intro h
    apply List.map_congr_left
    intro i hi
    rw [h i (by simpa using hi)]
end
end Go.Proofs.Ytnhejkfbnjopjaa.Ab
