/- The evaluator, run by rewriting: the rules. No condition. The evaluator's operations, a program's types taken out of them. No condition. -/
import Derived.Test.YtjjenpdjmcmgbaaDAm5
namespace Go.Proofs.Ytjjenpdjmcmgbaa.Ab
open Go
set_option linter.unusedSimpArgs false
set_option linter.unusedVariables false
/-- A word that always turns, so that a rule by congruence always has its say. -/
def tick : Prop := True
theorem tick_on : tick = True := propext ⟨fun _ => trivial, fun _ => trivial⟩
def bindO {α : Type} (o : Option α) (k : α → Prop) : Prop := match o with
  | some a => k a
  | none => False
@[congr] theorem bindO_congr {tk : Prop} {α : Type} {o o' : Option α} {k : α → Prop} (h : o = o') (htk : tick = tk) : bindO o k = bindO o' k := by rw [h]
@[simp] theorem bindO_some {α : Type} (a : α) (k : α → Prop) : bindO (some a) k = k a := rfl
@[simp] theorem bindO_none {α : Type} (k : α → Prop) : bindO none k = False := rfl
/-- A test: each way under what it tells. -/
def testP (t : Bool) (a b : Prop) : Prop := (t = true → a) ∧ (t = false → b)
@[congr] theorem testP_congr {tk : Prop} {t t' : Bool} {a b : Prop} (h : t = t') (htk : tick = tk) : testP t a b = testP t' a b := by rw [h]
@[simp] theorem testP_true (a b : Prop) : testP true a b = a := by simp [testP]
@[simp] theorem testP_false (a b : Prop) : testP false a b = b := by simp [testP]
def boolK (v : V) (k : Bool → Prop) : Prop := match v with
  | .bool t => k t
  | _ => False
@[congr] theorem boolK_congr {tk : Prop} {v v' : V} {k : Bool → Prop} (h : v = v') (htk : tick = tk) : boolK v k = boolK v' k := by rw [h]
@[simp] theorem boolK_bool (t : Bool) (k : Bool → Prop) : boolK (.bool t) k = k t := rfl
section
variable {P : Program} {all : Array Oper} {r : List Oper} {env : Env} {m : Mem} {K : Env → Mem → Prop} {Kp : V → Mem → Prop} {d : Option Nat} {ty : TypeId} {pos : String} {af : Array Edge}
@[congr] theorem runOps_congr {tk : Prop} {l : List Oper} {env' : Env} {m' : Mem} (h1 : env = env') (h2 : m = m') (htk : tick = tk) : runOps P all l env m K Kp = runOps P all l env' m' K Kp := by rw [h1, h2]
@[congr] theorem runDrawn_congr {tk : Prop} {k : Nat} {acc : List (Nat × Info × Nat)} {l : List Oper} {env' : Env} {m' : Mem} (h1 : env = env') (h2 : m = m') (htk : tick = tk) : runDrawn P all K k acc l env m = runDrawn P all K k acc l env' m' := by rw [h1, h2]
@[congr] theorem W_congr {tk : Prop} {K0 : Nat} {R : List Nat} {c : Code} {E : Nat → List Nat} {L : List Nat} {env' : Env} {m' : Mem} {Q : Ex → Env → Mem → Prop} (h1 : env = env') (h2 : m = m') (htk : tick = tk) : W P K0 R c E L env m Q = W P K0 R c E L env' m' Q := by rw [h1, h2]
@[congr] theorem callD_congr {tk : Prop} {f : FuncId} {vs vs' : List V} {m' : Mem} {K : V → Mem → Prop} (h1 : vs = vs') (h2 : m = m') (htk : tick = tk) : callD P f vs m K Kp = callD P f vs' m' K Kp := by rw [h1, h2]
@[congr] theorem endQ_congr {tk : Prop} {fn : Func} {Q : CR → Prop} {ex ex' : Ex} {env' : Env} {m' : Mem} (h0 : ex = ex') (h1 : env = env') (h2 : m = m') (htk : tick = tk) : endQ P fn Q ex env m = endQ P fn Q ex' env' m' := by rw [h0, h1, h2]
@[simp] theorem upd_self (e : Env) (k : Nat) (v : V) : upd e k v k = v := by simp [upd]
theorem upd_ne (e : Env) {k t : Nat} (v : V) (h : k ≠ t) : upd e k v t = e t := by
  have : Nat.beq k t = false := by
    cases hb : Nat.beq k t with
    | false => rfl
    | true => exact absurd (Nat.eq_of_beq_eq_true hb) h
  simp [upd, this]
theorem upd_at (e : Env) (k : Nat) (v : V) (t : Nat) : upd e k v t = if k = t then v else e t := by
  by_cases h : k = t
  · subst h; simp
  · rw [upd_ne e v h, if_neg h]
theorem x_nil : runOps P all [] env m K Kp = K env m := rfl
theorem x_move {x : Operand} : runOps P all (⟨d, .move x, ty, pos, af, none⟩ :: r) env m K Kp = runOps P all r (put env d (evO env x)) m K Kp := rfl
theorem x_assign {x : Operand} : runOps P all (⟨d, .assign x, ty, pos, af, none⟩ :: r) env m K Kp = runOps P all r (put env d (evO env x)) m K Kp := rfl
theorem x_val {op : Op} {o : Option V} (h1 : panicV (evO env) op = none) (h2 : calleeV (evO env) op = none) (h3 : execD P (evO env) m op = o.map (Res.val · m)) :
    runOps P all (⟨d, op, ty, pos, af, none⟩ :: r) env m K Kp = bindO o fun v => runOps P all r (put env d v) m K Kp := by
  simp only [runOps, wantD, h1, h2, h3]
  cases o <;> rfl
theorem x_new {op : Op} {o : Option (V × Mem)} (h1 : panicV (evO env) op = none) (h2 : calleeV (evO env) op = none) (h3 : execD P (evO env) m op = o.map fun p => Res.val p.1 p.2) :
    runOps P all (⟨d, op, ty, pos, af, none⟩ :: r) env m K Kp = bindO o fun p => runOps P all r (put env d p.1) p.2 K Kp := by
  simp only [runOps, wantD, h1, h2, h3]
  cases o <;> rfl
theorem x_pick {c x y : Operand} : runOps P all (⟨d, .pick c x y, ty, pos, af, none⟩ :: r) env m K Kp = boolK (evO env c) fun t => runOps P all r (put env d (pickV t (evO env x) (evO env y))) m K Kp := by
  simp only [runOps, wantD, panicV, calleeV, execD]
  cases evO env c <;> rfl
theorem x_alloc {t : TypeId} : runOps P all (⟨d, .alloc t, ty, pos, af, none⟩ :: r) env m K Kp = bindO (allocV P t m) fun p => runOps P all r (put env d p.1) p.2 K Kp := x_new rfl rfl rfl
theorem x_box {t : TypeId} {x : Operand} : runOps P all (⟨d, .box t x, ty, pos, af, none⟩ :: r) env m K Kp = bindO (newV t m (evO env x)) fun p => runOps P all r (put env d p.1) p.2 K Kp := x_new rfl rfl rfl
theorem x_build {t : TypeId} {ps : List (Nat × Operand)} : runOps P all (⟨d, .build t ps.toArray, ty, pos, af, none⟩ :: r) env m K Kp = bindO (buildV P t (ps.map fun p => (p.1, evO env p.2))) fun v => runOps P all r (put env d v) m K Kp := x_val rfl rfl rfl
theorem x_buildSlice {t : TypeId} {n : Nat} {ps : List (Nat × Operand)} : runOps P all (⟨d, .buildSlice t n ps.toArray, ty, pos, af, none⟩ :: r) env m K Kp = bindO (bsliceV P t n (ps.map fun p => (p.1, evO env p.2)) m) fun p => runOps P all r (put env d p.1) p.2 K Kp := x_new rfl rfl rfl
theorem x_load {t : TypeId} {x : Operand} : runOps P all (⟨d, .load t x, ty, pos, af, none⟩ :: r) env m K Kp = bindO (loadV P m t (evO env x)) fun v => runOps P all r (put env d v) m K Kp := x_val rfl rfl rfl
theorem x_store {t : TypeId} {x y : Operand} : runOps P all (⟨none, .store t x y, ty, pos, af, none⟩ :: r) env m K Kp = bindO (storeV P t m (evO env x) (evO env y)) fun m' => runOps P all r env m' K Kp := by
  simp only [runOps, wantD, panicV, calleeV, execD]
  cases storeV P t m (evO env x) (evO env y) <;> rfl
theorem x_nilCheck {x : Operand} : runOps P all (⟨d, .nilCheck x, ty, pos, af, none⟩ :: r) env m K Kp = bindO (bif nonnil (evO env x) then some () else none) fun _ => runOps P all r (put env d (evO env x)) m K Kp := by
  simp only [runOps, wantD, panicV, calleeV, execD]
  cases nonnil (evO env x) <;> rfl
theorem x_binOp {b : BinOp} {t u : TypeId} {x y : Operand} : runOps P all (⟨d, .binOp b t x y u, ty, pos, af, none⟩ :: r) env m K Kp = bindO (binV P b t (evO env x) (evO env y)) fun v => runOps P all r (put env d v) m K Kp := x_val rfl rfl rfl
theorem x_unOp {b : UnOp} {t : TypeId} {x : Operand} : runOps P all (⟨d, .unOp b t x, ty, pos, af, none⟩ :: r) env m K Kp = bindO (unV b (evO env x)) fun v => runOps P all r (put env d v) m K Kp := x_val rfl rfl rfl
theorem x_convert {s t : TypeId} {x : Operand} : runOps P all (⟨d, .convert s t x, ty, pos, af, none⟩ :: r) env m K Kp = bindO (convM P m s t (evO env x)) fun v => runOps P all r (put env d v) m K Kp := x_val rfl rfl rfl
theorem x_typeAssert {x : Operand} {u t : TypeId} : runOps P all (⟨d, .typeAssert x u t true, ty, pos, af, none⟩ :: r) env m K Kp = bindO (assertV P t (evO env x)) fun v => runOps P all r (put env d v) m K Kp := x_val rfl rfl rfl
theorem x_makeFunc {f : FuncId} {a b : List Operand} : runOps P all (⟨d, .makeFunc (.func f) a.toArray b.toArray, ty, pos, af, none⟩ :: r) env m K Kp = runOps P all r (put env d (.fn f (a.map (evO env)) (b.map (evO env)))) m K Kp := rfl
theorem x_slice {t : TypeId} {x : Operand} {lo hi : Option Operand} : runOps P all (⟨d, .slice t x lo hi none, ty, pos, af, none⟩ :: r) env m K Kp = bindO (sliceV P t (evO env x) (lo.map (evO env)) (hi.map (evO env))) fun v => runOps P all r (put env d v) m K Kp := x_val rfl rfl rfl
theorem x_fieldAddr {t : TypeId} {x : Operand} {f : Nat} : runOps P all (⟨d, .fieldAddr t x f, ty, pos, af, none⟩ :: r) env m K Kp = bindO (faddrV P t f (evO env x)) fun v => runOps P all r (put env d v) m K Kp := x_val rfl rfl rfl
theorem x_field {t : TypeId} {x : Operand} {f : Nat} : runOps P all (⟨d, .field t x f, ty, pos, af, none⟩ :: r) env m K Kp = bindO (fieldV P t f (evO env x)) fun v => runOps P all r (put env d v) m K Kp := x_val rfl rfl rfl
theorem x_indexAddr {t : TypeId} {x y : Operand} : runOps P all (⟨d, .indexAddr t x y, ty, pos, af, none⟩ :: r) env m K Kp = bindO (iaddrV P t (evO env x) (evO env y)) fun v => runOps P all r (put env d v) m K Kp := x_val rfl rfl rfl
theorem x_index {t : TypeId} {x y : Operand} : runOps P all (⟨d, .index t x y, ty, pos, af, none⟩ :: r) env m K Kp = bindO (indexV P t (evO env x) (evO env y)) fun v => runOps P all r (put env d v) m K Kp := x_val rfl rfl rfl
theorem x_extract {x : Operand} {i : Nat} : runOps P all (⟨d, .extract x i, ty, pos, af, none⟩ :: r) env m K Kp = bindO (extractV i (evO env x)) fun v => runOps P all r (put env d v) m K Kp := x_val rfl rfl rfl
theorem x_append {x y : Operand} {t u : TypeId} : runOps P all (⟨d, .call { callee := .builtin .append, args := #[x, y], argTypes := #[t, u] }, ty, pos, af, none⟩ :: r) env m K Kp = bindO (appendA P t u (evO env x) (evO env y) m) fun p => runOps P all r (put env d p.1) p.2 K Kp := x_new rfl rfl rfl
theorem x_len {x : Operand} {t : TypeId} : runOps P all (⟨d, .call { callee := .builtin .len, args := #[x], argTypes := #[t] }, ty, pos, af, none⟩ :: r) env m K Kp = bindO (lenV P m t (evO env x)) fun v => runOps P all r (put env d v) m K Kp := x_val rfl rfl rfl
theorem x_makeSlice {x y : Operand} {t : TypeId} : runOps P all (⟨d, .makeSlice t x y, ty, pos, af, none⟩ :: r) env m K Kp = bindO (makeSliceV P t (evO env x) (evO env y) m) fun p => runOps P all r (put env d p.1) p.2 K Kp := x_new rfl rfl rfl
theorem x_makeMap {t : TypeId} : runOps P all (⟨d, .makeMap t none, ty, pos, af, none⟩ :: r) env m K Kp = runOps P all r (put env d (.mp m.length)) (m ++ [.map [] [] 0]) K Kp := rfl
/-- All that may come. -/
def allP {α : Type} (l : List α) (k : α → Prop) : Prop := ∀ p ∈ l, k p
@[congr] theorem allP_congr {tk : Prop} {α : Type} {l l' : List α} {k : α → Prop} (h : l = l') (htk : tick = tk) : allP l k = allP l' k := by rw [h]
theorem x_range {x : Operand} {t : TypeId} : runOps P all (⟨d, .range t x, ty, pos, af, none⟩ :: r) env m K Kp = bindO (rangeV P t m (evO env x)) fun p => runOps P all r (put env d p.1) p.2 K Kp := x_new rfl rfl rfl
theorem x_entry {x : Operand} : runOps P all (⟨d, .entry x, ty, pos, af, none⟩ :: r) env m K Kp = bindO (entryV m (evO env x)) fun v => runOps P all r (put env d v) m K Kp := x_val rfl rfl rfl
theorem x_next {x : Operand} : runOps P all (⟨d, .next x false, ty, pos, af, none⟩ :: r) env m K Kp = bindO (nextV m (evO env x)) fun l => allP l fun p => runOps P all r (put env d p.1) p.2 K Kp := by
  simp only [runOps, wantD, panicV, calleeV, execD]
  cases nextV m (evO env x) <;> rfl
theorem x_lookup {x k : Operand} {t : TypeId} {ok : Bool} : runOps P all (⟨d, .lookup t x k ok, ty, pos, af, none⟩ :: r) env m K Kp = bindO (lookupV P t m (evO env x) (evO env k) ok) fun v => runOps P all r (put env d v) m K Kp := x_val rfl rfl rfl
theorem x_mapUpdate {x k v : Operand} {t : TypeId} : runOps P all (⟨none, .mapUpdate t x k v, ty, pos, af, none⟩ :: r) env m K Kp = bindO (putV P t m (evO env x) (evO env k) (evO env v)) fun m' => runOps P all r env m' K Kp := by
  simp only [runOps, wantD, panicV, calleeV, execD]
  cases putV P t m (evO env x) (evO env k) (evO env v) <;> rfl
theorem x_insert {x k v : Operand} {t : TypeId} : runOps P all (⟨none, .insert t x k v, ty, pos, af, none⟩ :: r) env m K Kp = bindO (putV P t m (evO env x) (evO env k) (evO env v)) fun m' => runOps P all r env m' K Kp := by
  simp only [runOps, wantD, panicV, calleeV, execD]
  cases putV P t m (evO env x) (evO env k) (evO env v) <;> rfl
theorem x_delete {x k : Operand} {t u : TypeId} : runOps P all (⟨none, .call { callee := .builtin .delete, args := #[x, k], argTypes := #[t, u] }, ty, pos, af, none⟩ :: r) env m K Kp = bindO (delV P t m (evO env x) (evO env k)) fun m' => runOps P all r env m' K Kp := by
  simp only [runOps, wantD, panicV, calleeV, execD]
  cases delV P t m (evO env x) (evO env k) <;> rfl
theorem x_min {x y : Operand} {ts : Array TypeId} : runOps P all (⟨d, .call { callee := .builtin .min, args := #[x, y], argTypes := ts }, ty, pos, af, none⟩ :: r) env m K Kp = bindO (minmaxV false (evO env x) (evO env y)) fun v => runOps P all r (put env d v) m K Kp := x_val rfl rfl rfl
theorem x_max {x y : Operand} {ts : Array TypeId} : runOps P all (⟨d, .call { callee := .builtin .max, args := #[x, y], argTypes := ts }, ty, pos, af, none⟩ :: r) env m K Kp = bindO (minmaxV true (evO env x) (evO env y)) fun v => runOps P all r (put env d v) m K Kp := x_val rfl rfl rfl
def calleeK (e : Operand → V) (f : Operand) (args : List Operand) : Option (FuncId × List V) := match e f with
  | .fn k a b => some (k, a ++ args.map e ++ b)
  | _ => none
theorem x_call {f : Operand} {args : List Operand} {ts : Array TypeId} : runOps P all (⟨d, .call { callee := .value f, args := args.toArray, argTypes := ts }, ty, pos, af, none⟩ :: r) env m K Kp =
    bindO (calleeK (evO env) f args) fun p => callD P p.1 p.2 m (fun v m' => runOps P all r (put env d v) m' K Kp) Kp := by
  simp only [runOps, wantD, panicV, calleeV, calleeK]
  cases evO env f <;> rfl
theorem x_guard {op : Op} {j : Nat} {want : Bool} : runOps P all (⟨d, op, ty, pos, af, some (j, want)⟩ :: r) env m K Kp =
    bindO (wantD all env ⟨d, op, ty, pos, af, some (j, want)⟩) fun b => testP b (runOps P all (⟨d, op, ty, pos, af, none⟩ :: r) env m K Kp) (runOps P all r (put env d (.tup [])) m K Kp) := by
  have : wantD all env ⟨d, op, ty, pos, af, none⟩ = some true := rfl
  simp only [runOps, this]
  cases wantD all env ⟨d, op, ty, pos, af, some (j, want)⟩ with
  | none => rfl
  | some b => cases b <;> simp only [bindO_some, testP_true, testP_false]
variable {K0 : Nat} {R : List Nat} {E : Nat → List Nat} {L : List Nat} {Q : Ex → Env → Mem → Prop}
theorem w_region {id : Nat} {l : List Oper} : W P K0 R (.region id l.toArray false) E L env m Q = runOps P l.toArray l env m (Q .nrm) fun v m => Q (.pan v) (wipe l.toArray env) m := rfl
/-- What comes behind. -/
def seqQ (k : Env → Mem → Prop) (Q : Ex → Env → Mem → Prop) (ex : Ex) (env : Env) (m : Mem) : Prop := match ex with
  | .nrm => k env m
  | _ => Q ex env m
@[congr] theorem seqQ_congr {tk : Prop} {k : Env → Mem → Prop} {ex ex' : Ex} {env' : Env} {m' : Mem} (h : ex = ex') (h1 : env = env') (h2 : m = m') (htk : tick = tk) : seqQ k Q ex env m = seqQ k Q ex' env' m' := by rw [h, h1, h2]
@[simp] theorem seqQ_nrm {k : Env → Mem → Prop} : seqQ k Q .nrm env m = k env m := rfl
@[simp] theorem seqQ_ret {k : Env → Mem → Prop} : seqQ k Q .ret env m = Q .ret env m := rfl
@[simp] theorem seqQ_exit {k : Env → Mem → Prop} {i : Nat} : seqQ k Q (.exit i) env m = Q (.exit i) env m := rfl
@[simp] theorem seqQ_pan {k : Env → Mem → Prop} {v : V} : seqQ k Q (.pan v) env m = Q (.pan v) env m := rfl
def blockQ (id : Nat) (Q : Ex → Env → Mem → Prop) (ex : Ex) (env : Env) (m : Mem) : Prop := match ex with
  | .exit i => bif Nat.beq i id then Q .nrm env m else Q (.exit i) env m
  | _ => Q ex env m
@[congr] theorem blockQ_congr {tk : Prop} {id : Nat} {ex ex' : Ex} {env' : Env} {m' : Mem} (h : ex = ex') (h1 : env = env') (h2 : m = m') (htk : tick = tk) : blockQ id Q ex env m = blockQ id Q ex' env' m' := by rw [h, h1, h2]
@[simp] theorem blockQ_nrm {id : Nat} : blockQ id Q .nrm env m = Q .nrm env m := rfl
@[simp] theorem blockQ_ret {id : Nat} : blockQ id Q .ret env m = Q .ret env m := rfl
@[simp] theorem blockQ_pan {id : Nat} {v : V} : blockQ id Q (.pan v) env m = Q (.pan v) env m := rfl
theorem blockQ_exit {id i : Nat} : blockQ id Q (.exit i) env m = if i = id then Q .nrm env m else Q (.exit i) env m := by
  by_cases h : i = id
  · subst h; simp [blockQ]
  · have : Nat.beq i id = false := by
      cases hb : Nat.beq i id with
      | false => rfl
      | true => exact absurd (Nat.eq_of_beq_eq_true hb) h
    simp [blockQ, this, h]
@[simp] theorem blockQ_hit {id : Nat} : blockQ id Q (.exit id) env m = Q .nrm env m := by rw [blockQ_exit, if_pos rfl]
theorem w_seq {a b : Code} : W P K0 R (.seq a b) E L env m Q = W P K0 R a E (lv R b E L) env m (seqQ (fun env m => W P K0 R b E L env m Q) Q) := rfl
theorem w_cond {c : Operand} {a b : Code} : W P K0 R (.cond c a b) E L env m Q = boolK (evO env c) fun t => testP t (W P K0 R a E L env m Q) (W P K0 R b E L env m Q) := by
  simp only [W, boolK, testP]
  cases evO env c <;> rfl
theorem w_block {id : Nat} {b : Code} : W P K0 R (.block id b) E L env m Q = W P K0 R b (fun i => bif Nat.beq i id then L else E i) L env m (blockQ id Q) := rfl
theorem w_skip : W P K0 R .skip E L env m Q = Q .nrm env m := rfl
theorem w_exit {id : Nat} : W P K0 R (.exit id) E L env m Q = Q (.exit id) env m := rfl
theorem w_ret : W P K0 R .ret E L env m Q = Q .ret env m := rfl
theorem w_scope {b : Code} : W P K0 R (.scope b) E L env m Q = W P K0 R b E L env m Q := rfl
theorem w_label {l : Nat} : W P K0 R (.label l) E L env m Q = Q .nrm env m := rfl
end
end Go.Proofs.Ytjjenpdjmcmgbaa.Ab
namespace Go.Proofs.Ytjjenpdjmcmgbaa.Ab
open Go
set_option linter.unusedSimpArgs false
set_option linter.unusedVariables false
def partK (agg : Bool) (sz : Nat) (l : List V) (off : Nat) : Option V :=
  bif agg then (if off + sz ≤ l.length then some (.agg ((l.drop off).take sz)) else none) else l[off]?
def loadK (agg : Bool) (sz : Nat) (m : Mem) (p : V) : Option V := match cellsAt m p with
  | some (l, off) => partK agg sz l off
  | none => none
def storeK (sz : Nat) (m : Mem) (p v : V) : Option Mem :=
  if (cellsOfV v).length = sz ∧ cellsB v = true then match p with
    | .ptr n off => match m[n]? with
      | some (.var ty l) => if off + (cellsOfV v).length ≤ l.length then some (m.set n (.var ty (splice l off (cellsOfV v)))) else none
      | _ => none
    | .ep sz n i off => match m[n]? with
      | some (.row ty sz' es) => if sz = sz' then (match es[i]? with
        | some e => if off + (cellsOfV v).length ≤ e.length then some (m.set n (.row ty sz' (es.set i (splice e off (cellsOfV v))))) else none
        | none => none) else none
      | _ => none
    | .ip l => if stillB l (cellsOfV v) = true then some m else none
    | _ => none
  else none
def faddrK (o : Nat) (p : V) : Option V := match p with
  | .ptr n off => some (.ptr n (off + o))
  | .ep sz n i off => some (.ep sz n i (off + o))
  | .ip l => if o ≤ l.length then some (.ip (l.drop o)) else none
  | _ => none
def iaddrA (n s : Nat) (p q : V) : Option V := match q with
  | .int _ i => if 0 ≤ i ∧ i < n then (match p with
    | .ptr k off => some (.ptr k (off + i.toNat * s))
    | .ep sz k j off => some (.ep sz k j (off + i.toNat * s))
    | .ip l => some (.ip (l.drop (i.toNat * s)))
    | _ => none) else none
  | _ => none
def iaddrS (s : Nat) (p q : V) : Option V := match q with
  | .int _ i => match p with
    | .sl sz k off len => if 0 ≤ i ∧ i < len then (bif Nat.beq sz s then some (.ep sz k (off + i.toNat) 0) else none) else none
    | .isl sz es => if 0 ≤ i ∧ i < es.length then (bif Nat.beq sz s then (match es[i.toNat]? with
        | some e => some (.ip e)
        | none => none) else none) else none
    | _ => none
  | _ => none
def indexA (n : Nat) (agg : Bool) (s : Nat) (x q : V) : Option V := match x, q with
  | .agg l, .int _ i => if 0 ≤ i ∧ i < n then partK agg s l (i.toNat * s) else none
  | _, _ => none
def fieldK (agg : Bool) (sz off : Nat) (x : V) : Option V := match x with
  | .agg l => partK agg sz l off
  | _ => none
section
variable {P : Program} {m : Mem} {t : TypeId}
theorem loadV_of {agg : Bool} {sz : Nat} (h : ∀ l off, partV P t l off = partK agg sz l off) (p : V) : loadV P m t p = loadK agg sz m p := by
  unfold loadV loadK
  split <;> simp_all
theorem storeV_of {i : TypeInfo} (h : P.info? t = some i) (p v : V) : storeV P t m p v = storeK i.size m p v := by
  unfold storeV storeK
  rw [h]
  simp only
  by_cases h1 : (cellsOfV v).length = i.size ∧ cellsB v = true
  · rw [if_pos h1]
    have : (Nat.beq (cellsOfV v).length i.size && cellsB v) = true := by
      rw [Bool.and_eq_true]; exact ⟨by rw [h1.1]; simp, h1.2⟩
    rw [this]
    rfl
  · rw [if_neg h1]
    have : (Nat.beq (cellsOfV v).length i.size && cellsB v) = false := by
      cases hb : Nat.beq (cellsOfV v).length i.size && cellsB v with
      | false => rfl
      | true =>
        rw [Bool.and_eq_true] at hb
        exact absurd ⟨Nat.eq_of_beq_eq_true hb.1, hb.2⟩ h1
    rw [this]
    rfl
theorem int_beq (a b : Int) : (a == b) = decide (a = b) := by rw [Bool.eq_iff_iff]; simp
theorem b_add (k : IntKind) (a b : Int) : binV P .add t (.int k a) (.int k b) = some (.int k (k.wrap (a + b))) := by simp [binV]
theorem b_sub (k : IntKind) (a b : Int) : binV P .sub t (.int k a) (.int k b) = some (.int k (k.wrap (a - b))) := by simp [binV]
theorem b_mul (k : IntKind) (a b : Int) : binV P .mul t (.int k a) (.int k b) = some (.int k (k.wrap (a * b))) := by simp [binV]
theorem b_and (k : IntKind) (a b : Int) : binV P .and t (.int k a) (.int k b) = some (.int k (bits .and k a b)) := by simp [binV]
theorem b_or (k : IntKind) (a b : Int) : binV P .or t (.int k a) (.int k b) = some (.int k (bits .or k a b)) := by simp [binV]
theorem b_xor (k : IntKind) (a b : Int) : binV P .xor t (.int k a) (.int k b) = some (.int k (bits .xor k a b)) := by simp [binV]
theorem b_andNot (k : IntKind) (a b : Int) : binV P .andNot t (.int k a) (.int k b) = some (.int k (bits .andNot k a b)) := by simp [binV]
theorem b_quo (k : IntKind) (a b : Int) : binV P .quo t (.int k a) (.int k b) = if b = 0 then none else some (.int k (k.wrap (a.tdiv b))) := by simp [binV]
theorem b_rem (k : IntKind) (a b : Int) : binV P .rem t (.int k a) (.int k b) = if b = 0 then none else some (.int k (a.tmod b)) := by simp [binV]
theorem b_eql (k : IntKind) (a b : Int) : binV P .eql t (.int k a) (.int k b) = some (.bool (decide (a = b))) := by simp only [binV, if_pos]; rw [int_beq]
theorem b_neq (k : IntKind) (a b : Int) : binV P .neq t (.int k a) (.int k b) = some (.bool (!decide (a = b))) := by simp only [binV, if_pos, bne, int_beq]
theorem b_lss (k : IntKind) (a b : Int) : binV P .lss t (.int k a) (.int k b) = some (.bool (decide (a < b))) := by simp [binV]
theorem b_leq (k : IntKind) (a b : Int) : binV P .leq t (.int k a) (.int k b) = some (.bool (decide (a ≤ b))) := by simp [binV]
theorem b_gtr (k : IntKind) (a b : Int) : binV P .gtr t (.int k a) (.int k b) = some (.bool (decide (b < a))) := by simp [binV]
theorem b_geq (k : IntKind) (a b : Int) : binV P .geq t (.int k a) (.int k b) = some (.bool (decide (b ≤ a))) := by simp [binV]
theorem b_shr (k k' : IntKind) (a b : Int) : binV P .shr t (.int k a) (.int k' b) = if b < 0 then none else some (.int k (a.fdiv (2 ^ (min b.toNat k.bits)))) := by simp [binV]
theorem b_shl (k k' : IntKind) (a b : Int) : binV P .shl t (.int k a) (.int k' b) = if b < 0 then none else some (.int k (k.wrap (a * 2 ^ (min b.toNat k.bits)))) := by simp [binV]
theorem pick_bool (t a b : Bool) : pickV t (.bool a) (.bool b) = .bool (bif t then a else b) := rfl
theorem pick_true (a b : V) : pickV true a b = a := by unfold pickV; split <;> rfl
theorem pick_false (a b : V) : pickV false a b = b := by unfold pickV; split <;> rfl
theorem u_not (b : Bool) : unV .not (.bool b) = some (.bool (!b)) := rfl
theorem newV_agg (l : List V) : newV t m (.agg l) = some (.ptr m.length 0, m ++ [.var t l]) := rfl
theorem newV_one {v : V} (h : oneV v = true) : newV t m v = some (.ptr m.length 0, m ++ [.var t [v]]) := by
  cases v <;> first | rfl | (simp [oneV] at h)
theorem splice_one {α : Type} {l : List α} {off : Nat} {c : α} (h : off < l.length) : splice l off [c] = l.set off c := by
  apply List.ext_getElem?
  intro j
  rw [splice_get (by simp; omega)]
  simp only [List.length_singleton]
  by_cases h1 : j = off
  · subst h1
    rw [if_neg (by omega), if_pos (by omega), List.getElem?_set_self h]; simp
  · rw [List.getElem?_set_ne (by omega)]
    split
    · rfl
    · rw [if_neg (by omega)]
theorem splice_all {α : Type} {l cs : List α} (h : cs.length = l.length) : splice l 0 cs = cs := by
  simp [splice, h]
end
mutual
theorem nf_inD (D : Nat → Bool) : ∀ v, nf v = true → inD D v = true
  | .ptr _ _, h => by simp [nf] at h
  | .ep _ _ _ _, h => by simp [nf] at h
  | .sl _ _ _ _, h => by simp [nf] at h
  | .mp _, h => by simp [nf] at h
  | .unk, _ => rfl
  | .ip l, h => by simpa [nf, inD] using h
  | .isl _ es, h => by simpa [nf, inD] using h
  | .fn _ a b, h => by simp only [nf, Bool.and_eq_true] at h; simp only [inD, nfs_inDs D a h.1, nfs_inDs D b h.2, Bool.and_self]
  | .ifc _ v, h => by simp only [nf] at h; simp only [inD, nf_inD D v h]
  | .agg l, h => by simp only [nf] at h; simp only [inD, nfs_inDs D l h]
  | .tup l, h => by simp only [nf] at h; simp only [inD, nfs_inDs D l h]
  | .bool _, _ => rfl
  | .int _ _, _ => rfl
  | .str _, _ => rfl
  | .nilp, _ => rfl
  | .nils, _ => rfl
  | .nilm, _ => rfl
  | .nilf, _ => rfl
  | .nili, _ => rfl
theorem nfs_inDs (D : Nat → Bool) : ∀ l, nfs l = true → inDs D l = true
  | [], _ => rfl
  | v :: r, h => by simp only [nfs, Bool.and_eq_true] at h; simp only [inDs, nf_inD D v h.1, nfs_inDs D r h.2, Bool.and_self]
end
mutual
theorem nf_nms : ∀ v, nf v = true → nms v = []
  | .ptr _ _, h => by simp [nf] at h
  | .ep _ _ _ _, h => by simp [nf] at h
  | .sl _ _ _ _, h => by simp [nf] at h
  | .mp _, h => by simp [nf] at h
  | .unk, _ => rfl
  | .ip _, _ => rfl
  | .isl _ _, _ => rfl
  | .fn _ a b, h => by simp only [nf, Bool.and_eq_true] at h; simp only [nms, nfs_nmss a h.1, nfs_nmss b h.2, List.append_nil]
  | .ifc _ v, h => by simp only [nf] at h; simp only [nms, nf_nms v h]
  | .agg l, h => by simp only [nf] at h; simp only [nms, nfs_nmss l h]
  | .tup l, h => by simp only [nf] at h; simp only [nms, nfs_nmss l h]
  | .bool _, _ => rfl
  | .int _ _, _ => rfl
  | .str _, _ => rfl
  | .nilp, _ => rfl
  | .nils, _ => rfl
  | .nilm, _ => rfl
  | .nilf, _ => rfl
  | .nili, _ => rfl
theorem nfs_nmss : ∀ l, nfs l = true → nmss l = []
  | [], _ => rfl
  | v :: r, h => by simp only [nfs, Bool.and_eq_true] at h; simp only [nmss, nf_nms v h.1, nfs_nmss r h.2, List.append_nil]
end
/-- A contract of a function of values alone: it answers v. -/
def Ans (P : Program) (f : FuncId) (vs : List V) (v : V) : Prop := Snd P f vs [] fun r => ∃ m1, r = .ret v m1
/-- A call on all of the memory. -/
theorem callD_all {P : Program} {f : FuncId} {vs : List V} {m m1 : Mem} {K Kp : V → Mem → Prop} {v : V} (h : Snd P f vs m fun r => r = .ret v m1) (he : enterable P f = true) (hk : K v m1) : callD P f vs m K Kp :=
  .inr ⟨he, _, h, by rintro r rfl; exact hk⟩
theorem callD_allQ {P : Program} {f : FuncId} {vs : List V} {m : Mem} {K Kp : V → Mem → Prop} {Q : CR → Prop} (h : Snd P f vs m Q) (he : enterable P f = true) (hk : ∀ r, Q r → ∃ v m1, r = .ret v m1 ∧ K v m1) : callD P f vs m K Kp :=
  .inr ⟨he, _, h, fun r hr => by obtain ⟨v, m1, rfl, h⟩ := hk r hr; exact h⟩
theorem callD_ans {P : Program} {f : FuncId} {vs : List V} {m : Mem} {K Kp : V → Mem → Prop} {v : V} (h : Ans P f vs v) (he : enterable P f = true) (hn : nfs vs = true) (hv : nf v = true) (hk : K v m) : callD P f vs m K Kp := by
  have hroots : rootsV m vs = [] := by unfold rootsV; rw [nfs_nmss vs hn]; rfl
  refine .inl ?_
  unfold callL
  rw [hroots]
  refine ⟨?_, he, _, (by rw [rens_nf _ _ hn]; exact h), ?_⟩
  · simp [okCall, nfs_inDs _ vs hn, closedB, nodupB]
  · rintro r ⟨m1, rfl⟩
    simp [okRes, CR.val, CR.mem, hv, backV]
    exact hk
theorem stepV_ans {P : Program} {f : FuncId} {vs : List V} {m : Mem} {v : V} {o : Oper} {env : Env} (hc : calleeV (evO env) o.op = some (f, vs)) (h : Ans P f vs v) (he : enterable P f = true) (hn : nfs vs = true) (hv : nf v = true) : StepV P o env m v m := by
  have hroots : rootsV m vs = [] := by unfold rootsV; rw [nfs_nmss vs hn]; rfl
  unfold StepV
  rw [hc]
  simp only [hroots]
  refine ⟨?_, he, .inl ⟨rfl, hv, trivial, ?_⟩⟩
  · simp [okCall, nfs_inDs _ vs hn, closedB, nodupB]
  · rw [rens_nf _ _ hn]; exact h
end Go.Proofs.Ytjjenpdjmcmgbaa.Ab
