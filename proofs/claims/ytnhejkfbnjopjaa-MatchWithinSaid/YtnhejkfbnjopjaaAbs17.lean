/- The evaluator, run by rewriting: the rules. No condition. -/
import Derived.Test.YtnhejkfbnjopjaaAbs16
namespace Go.Proofs.Ytnhejkfbnjopjaa.Ab
open Go
set_option linter.unusedSimpArgs false
set_option linter.unusedVariables false

/-- A word that always turns, so that a rule by congruence always has its say. -/
def tick : Prop := True
theorem tick_on : tick = True := propext ⟨fun _ => trivial, fun _ => trivial⟩

/-! ### Words that keep what is to come from being looked at before its time -/

def bindO {α : Type} (o : Option α) (k : α → Prop) : Prop := match o with
  | some a => k a
  | none => False
@[congr] theorem bindO_congr {tk : Prop} {α : Type} {o o' : Option α} {k : α → Prop} (h : o = o') (htk : tick = tk) : bindO o k = bindO o' k := by rw [h]
@[simp] theorem bindO_some {α : Type} (a : α) (k : α → Prop) : bindO (some a) k = k a := rfl
@[simp] theorem bindO_none {α : Type} (k : α → Prop) : bindO none k = False := rfl
theorem bindO_of {α : Type} {o : Option α} {a : α} {k : α → Prop} (h : o = some a) (hk : k a) : bindO o k := by rw [h]; exact hk

/-- A test: each way under what it tells. -/
def testP (t : Bool) (a b : Prop) : Prop := (t = true → a) ∧ (t = false → b)
@[congr] theorem testP_congr {tk : Prop} {t t' : Bool} {a b : Prop} (h : t = t') (htk : tick = tk) : testP t a b = testP t' a b := by rw [h]
@[simp] theorem testP_true (a b : Prop) : testP true a b = a := by simp [testP]
@[simp] theorem testP_false (a b : Prop) : testP false a b = b := by simp [testP]
theorem testP_mk {t : Bool} {a b : Prop} (h1 : t = true → a) (h2 : t = false → b) : testP t a b := ⟨h1, h2⟩

def boolK (v : V) (k : Bool → Prop) : Prop := match v with
  | .bool t => k t
  | _ => False
@[congr] theorem boolK_congr {tk : Prop} {v v' : V} {k : Bool → Prop} (h : v = v') (htk : tick = tk) : boolK v k = boolK v' k := by rw [h]
@[simp] theorem boolK_bool (t : Bool) (k : Bool → Prop) : boolK (.bool t) k = k t := rfl

section
variable {P : Program} {all : Array Oper} {r : List Oper} {env : Env} {m : Mem} {K : Env → Mem → Prop} {Kp : V → Mem → Prop} {d : Option Nat} {ty : TypeId} {pos : String} {af : Array Edge}

@[congr] theorem runOps_congr {tk : Prop} {l : List Oper} {env' : Env} {m' : Mem} (h1 : env = env') (h2 : m = m') (htk : tick = tk) : runOps P all l env m K Kp = runOps P all l env' m' K Kp := by rw [h1, h2]
@[congr] theorem runDrawn_congr {tk : Prop} {k : Nat} {acc : List (Nat × Info × Nat)} {l : List Oper} {env' : Env} {m' : Mem} (h1 : env = env') (h2 : m = m') (htk : tick = tk) : runDrawn P all K k acc l env m = runDrawn P all K k acc l env' m' := by rw [h1, h2]
@[congr] theorem W_congr {tk : Prop} {K0 : Nat} {R : List Nat} {c : Code} {E : Nat → List Nat} {L : List Nat} {env' : Env} {m' : Mem} {Q : Ex → Env → Mem → Prop} (h1 : env = env') (h2 : m = m') (htk : tick = tk) : W P K0 R c E L env m Q = W P K0 R c E L env' m' Q := by rw [h1, h2]
@[congr] theorem callD_congr {tk : Prop} {f : FuncId} {vs vs' : List V} {m' : Mem} {K : V → Mem → Prop} (h1 : vs = vs') (h2 : m = m') (htk : tick = tk) : callD P f vs m K Kp = callD P f vs' m' K Kp := by rw [h1, h2]
@[congr] theorem endQ_congr {tk : Prop} {fn : Func} {Q : CR → Prop} {ex ex' : Ex} {env' : Env} {m' : Mem} (h0 : ex = ex') (h1 : env = env') (h2 : m = m') (htk : tick = tk) : endQ P fn Q ex env m = endQ P fn Q ex' env' m' := by rw [h0, h1, h2]

@[simp] theorem upd_self (e : Env) (k : Nat) (v : V) : upd e k v k = v := by simp [upd]
theorem upd_ne (e : Env) {k t : Nat} (v : V) (h : k ≠ t) : upd e k v t = e t := by
  have : Nat.beq k t = false := by
    cases hb : Nat.beq k t with
    | false => rfl
    | true => exact absurd (Nat.eq_of_beq_eq_true hb) h
  simp [upd, this]
theorem upd_at (e : Env) (k : Nat) (v : V) (t : Nat) : upd e k v t = if k = t then v else e t := by
  by_cases h : k = t
  · subst h; simp
  · rw [upd_ne e v h, if_neg h]

/-! ### Operations -/

theorem x_nil : runOps P all [] env m K Kp = K env m := rfl
theorem x_move {x : Operand} : runOps P all (⟨d, .move x, ty, pos, af, none⟩ :: r) env m K Kp = runOps P all r (put env d (evO env x)) m K Kp := rfl
theorem x_assign {x : Operand} : runOps P all (⟨d, .assign x, ty, pos, af, none⟩ :: r) env m K Kp = runOps P all r (put env d (evO env x)) m K Kp := rfl

theorem x_val {op : Op} {o : Option V} (h1 : panicV (evO env) op = none) (h2 : calleeV (evO env) op = none) (h3 : execD P (evO env) m op = o.map (Res.val · m)) :
    runOps P all (⟨d, op, ty, pos, af, none⟩ :: r) env m K Kp = bindO o fun v => runOps P all r (put env d v) m K Kp := by
  simp only [runOps, wantD, h1, h2, h3]
  cases o <;> rfl
theorem x_new {op : Op} {o : Option (V × Mem)} (h1 : panicV (evO env) op = none) (h2 : calleeV (evO env) op = none) (h3 : execD P (evO env) m op = o.map fun p => Res.val p.1 p.2) :
    runOps P all (⟨d, op, ty, pos, af, none⟩ :: r) env m K Kp = bindO o fun p => runOps P all r (put env d p.1) p.2 K Kp := by
  simp only [runOps, wantD, h1, h2, h3]
  cases o <;> rfl

theorem x_pick {c x y : Operand} : runOps P all (⟨d, .pick c x y, ty, pos, af, none⟩ :: r) env m K Kp = boolK (evO env c) fun t => runOps P all r (put env d (pickV t (evO env x) (evO env y))) m K Kp := by
  simp only [runOps, wantD, panicV, calleeV, execD]
  cases evO env c <;> rfl
theorem x_alloc {t : TypeId} : runOps P all (⟨d, .alloc t, ty, pos, af, none⟩ :: r) env m K Kp = bindO (allocV P t m) fun p => runOps P all r (put env d p.1) p.2 K Kp := x_new rfl rfl rfl
theorem x_box {t : TypeId} {x : Operand} : runOps P all (⟨d, .box t x, ty, pos, af, none⟩ :: r) env m K Kp = bindO (newV t m (evO env x)) fun p => runOps P all r (put env d p.1) p.2 K Kp := x_new rfl rfl rfl
theorem x_build {t : TypeId} {ps : List (Nat × Operand)} : runOps P all (⟨d, .build t ps.toArray, ty, pos, af, none⟩ :: r) env m K Kp = bindO (buildV P t (ps.map fun p => (p.1, evO env p.2))) fun v => runOps P all r (put env d v) m K Kp := x_val rfl rfl rfl
theorem x_buildSlice {t : TypeId} {n : Nat} {ps : List (Nat × Operand)} : runOps P all (⟨d, .buildSlice t n ps.toArray, ty, pos, af, none⟩ :: r) env m K Kp = bindO (bsliceV P t n (ps.map fun p => (p.1, evO env p.2)) m) fun p => runOps P all r (put env d p.1) p.2 K Kp := x_new rfl rfl rfl
theorem x_load {t : TypeId} {x : Operand} : runOps P all (⟨d, .load t x, ty, pos, af, none⟩ :: r) env m K Kp = bindO (loadV P m t (evO env x)) fun v => runOps P all r (put env d v) m K Kp := x_val rfl rfl rfl
theorem x_store {t : TypeId} {x y : Operand} : runOps P all (⟨none, .store t x y, ty, pos, af, none⟩ :: r) env m K Kp = bindO (storeV P t m (evO env x) (evO env y)) fun m' => runOps P all r env m' K Kp := by
  simp only [runOps, wantD, panicV, calleeV, execD]
  cases storeV P t m (evO env x) (evO env y) <;> rfl
theorem x_nilCheck {x : Operand} : runOps P all (⟨d, .nilCheck x, ty, pos, af, none⟩ :: r) env m K Kp = bindO (bif nonnil (evO env x) then some () else none) fun _ => runOps P all r (put env d (evO env x)) m K Kp := by
  simp only [runOps, wantD, panicV, calleeV, execD]
  cases nonnil (evO env x) <;> rfl
theorem x_binOp {b : BinOp} {t u : TypeId} {x y : Operand} : runOps P all (⟨d, .binOp b t x y u, ty, pos, af, none⟩ :: r) env m K Kp = bindO (binV P b t (evO env x) (evO env y)) fun v => runOps P all r (put env d v) m K Kp := x_val rfl rfl rfl
theorem x_unOp {b : UnOp} {t : TypeId} {x : Operand} : runOps P all (⟨d, .unOp b t x, ty, pos, af, none⟩ :: r) env m K Kp = bindO (unV b (evO env x)) fun v => runOps P all r (put env d v) m K Kp := x_val rfl rfl rfl
theorem x_convert {s t : TypeId} {x : Operand} : runOps P all (⟨d, .convert s t x, ty, pos, af, none⟩ :: r) env m K Kp = bindO (convV P s t (evO env x)) fun v => runOps P all r (put env d v) m K Kp := x_val rfl rfl rfl
theorem x_makeFunc {f : FuncId} {a b : List Operand} : runOps P all (⟨d, .makeFunc (.func f) a.toArray b.toArray, ty, pos, af, none⟩ :: r) env m K Kp = runOps P all r (put env d (.fn f (a.map (evO env)) (b.map (evO env)))) m K Kp := rfl
theorem x_slice {t : TypeId} {x : Operand} {lo hi : Option Operand} : runOps P all (⟨d, .slice t x lo hi none, ty, pos, af, none⟩ :: r) env m K Kp = bindO (sliceV P t (evO env x) (lo.map (evO env)) (hi.map (evO env))) fun v => runOps P all r (put env d v) m K Kp := x_val rfl rfl rfl
theorem x_fieldAddr {t : TypeId} {x : Operand} {f : Nat} : runOps P all (⟨d, .fieldAddr t x f, ty, pos, af, none⟩ :: r) env m K Kp = bindO (faddrV P t f (evO env x)) fun v => runOps P all r (put env d v) m K Kp := x_val rfl rfl rfl
theorem x_field {t : TypeId} {x : Operand} {f : Nat} : runOps P all (⟨d, .field t x f, ty, pos, af, none⟩ :: r) env m K Kp = bindO (fieldV P t f (evO env x)) fun v => runOps P all r (put env d v) m K Kp := x_val rfl rfl rfl
theorem x_indexAddr {t : TypeId} {x y : Operand} : runOps P all (⟨d, .indexAddr t x y, ty, pos, af, none⟩ :: r) env m K Kp = bindO (iaddrV P t (evO env x) (evO env y)) fun v => runOps P all r (put env d v) m K Kp := x_val rfl rfl rfl
theorem x_index {t : TypeId} {x y : Operand} : runOps P all (⟨d, .index t x y, ty, pos, af, none⟩ :: r) env m K Kp = bindO (indexV P t (evO env x) (evO env y)) fun v => runOps P all r (put env d v) m K Kp := x_val rfl rfl rfl
theorem x_extract {x : Operand} {i : Nat} : runOps P all (⟨d, .extract x i, ty, pos, af, none⟩ :: r) env m K Kp = bindO (extractV i (evO env x)) fun v => runOps P all r (put env d v) m K Kp := x_val rfl rfl rfl
theorem x_append {x y : Operand} {t u : TypeId} : runOps P all (⟨d, .call { callee := .builtin .append, args := #[x, y], argTypes := #[t, u] }, ty, pos, af, none⟩ :: r) env m K Kp = bindO (appendV P t u (evO env x) (evO env y) m) fun p => runOps P all r (put env d p.1) p.2 K Kp := x_new rfl rfl rfl
theorem x_len {x : Operand} {t : TypeId} : runOps P all (⟨d, .call { callee := .builtin .len, args := #[x], argTypes := #[t] }, ty, pos, af, none⟩ :: r) env m K Kp = bindO (lenV P m t (evO env x)) fun v => runOps P all r (put env d v) m K Kp := x_val rfl rfl rfl

def calleeK (e : Operand → V) (f : Operand) (args : List Operand) : Option (FuncId × List V) := match e f with
  | .fn k a b => some (k, a ++ args.map e ++ b)
  | _ => none

theorem x_call {f : Operand} {args : List Operand} {ts : Array TypeId} : runOps P all (⟨d, .call { callee := .value f, args := args.toArray, argTypes := ts }, ty, pos, af, none⟩ :: r) env m K Kp =
    bindO (calleeK (evO env) f args) fun p => callD P p.1 p.2 m (fun v m' => runOps P all r (put env d v) m' K Kp) Kp := by
  simp only [runOps, wantD, panicV, calleeV, calleeK]
  cases evO env f <;> rfl

theorem x_guard {op : Op} {j : Nat} {want : Bool} : runOps P all (⟨d, op, ty, pos, af, some (j, want)⟩ :: r) env m K Kp =
    bindO (wantD all env ⟨d, op, ty, pos, af, some (j, want)⟩) fun b => testP b (runOps P all (⟨d, op, ty, pos, af, none⟩ :: r) env m K Kp) (runOps P all r (put env d (.tup [])) m K Kp) := by
  have : wantD all env ⟨d, op, ty, pos, af, none⟩ = some true := rfl
  simp only [runOps, this]
  cases wantD all env ⟨d, op, ty, pos, af, some (j, want)⟩ with
  | none => rfl
  | some b => cases b <;> simp only [bindO_some, testP_true, testP_false]

/-! ### Code -/

variable {K0 : Nat} {R : List Nat} {E : Nat → List Nat} {L : List Nat} {Q : Ex → Env → Mem → Prop}

theorem w_region {id : Nat} {l : List Oper} : W P K0 R (.region id l.toArray false) E L env m Q = runOps P l.toArray l env m (Q .nrm) fun v m => Q (.pan v) env m := rfl
theorem w_drawn {id : Nat} {l : List Oper} : W P K0 R (.region id l.toArray true) E L env m Q = runDrawn P l.toArray (Q .nrm) 0 [] l env m := rfl

/-- What comes behind. -/
def seqQ (k : Env → Mem → Prop) (Q : Ex → Env → Mem → Prop) (ex : Ex) (env : Env) (m : Mem) : Prop := match ex with
  | .nrm => k env m
  | _ => Q ex env m
@[congr] theorem seqQ_congr {tk : Prop} {k : Env → Mem → Prop} {ex ex' : Ex} {env' : Env} {m' : Mem} (h : ex = ex') (h1 : env = env') (h2 : m = m') (htk : tick = tk) : seqQ k Q ex env m = seqQ k Q ex' env' m' := by rw [h, h1, h2]
@[simp] theorem seqQ_nrm {k : Env → Mem → Prop} : seqQ k Q .nrm env m = k env m := rfl
@[simp] theorem seqQ_ret {k : Env → Mem → Prop} : seqQ k Q .ret env m = Q .ret env m := rfl
@[simp] theorem seqQ_exit {k : Env → Mem → Prop} {i : Nat} : seqQ k Q (.exit i) env m = Q (.exit i) env m := rfl
@[simp] theorem seqQ_pan {k : Env → Mem → Prop} {v : V} : seqQ k Q (.pan v) env m = Q (.pan v) env m := rfl

def blockQ (id : Nat) (Q : Ex → Env → Mem → Prop) (ex : Ex) (env : Env) (m : Mem) : Prop := match ex with
  | .exit i => bif Nat.beq i id then Q .nrm env m else Q (.exit i) env m
  | _ => Q ex env m
@[congr] theorem blockQ_congr {tk : Prop} {id : Nat} {ex ex' : Ex} {env' : Env} {m' : Mem} (h : ex = ex') (h1 : env = env') (h2 : m = m') (htk : tick = tk) : blockQ id Q ex env m = blockQ id Q ex' env' m' := by rw [h, h1, h2]
@[simp] theorem blockQ_nrm {id : Nat} : blockQ id Q .nrm env m = Q .nrm env m := rfl
@[simp] theorem blockQ_ret {id : Nat} : blockQ id Q .ret env m = Q .ret env m := rfl
@[simp] theorem blockQ_pan {id : Nat} {v : V} : blockQ id Q (.pan v) env m = Q (.pan v) env m := rfl
theorem blockQ_exit {id i : Nat} : blockQ id Q (.exit i) env m = if i = id then Q .nrm env m else Q (.exit i) env m := by
  by_cases h : i = id
  · subst h; simp [blockQ]
  · have : Nat.beq i id = false := by
      cases hb : Nat.beq i id with
      | false => rfl
      | true => exact absurd (Nat.eq_of_beq_eq_true hb) h
    simp [blockQ, this, h]
@[simp] theorem blockQ_hit {id : Nat} : blockQ id Q (.exit id) env m = Q .nrm env m := by rw [blockQ_exit, if_pos rfl]

theorem w_seq {a b : Code} : W P K0 R (.seq a b) E L env m Q = W P K0 R a E (lv R b E L) env m (seqQ (fun env m => W P K0 R b E L env m Q) Q) := rfl
theorem w_cond {c : Operand} {a b : Code} : W P K0 R (.cond c a b) E L env m Q = boolK (evO env c) fun t => testP t (W P K0 R a E L env m Q) (W P K0 R b E L env m Q) := by
  simp only [W, boolK, testP]
  cases evO env c <;> rfl
theorem w_block {id : Nat} {b : Code} : W P K0 R (.block id b) E L env m Q = W P K0 R b (fun i => bif Nat.beq i id then L else E i) L env m (blockQ id Q) := rfl
theorem w_skip : W P K0 R .skip E L env m Q = Q .nrm env m := rfl
theorem w_exit {id : Nat} : W P K0 R (.exit id) E L env m Q = Q (.exit id) env m := rfl
theorem w_ret : W P K0 R .ret E L env m Q = Q .ret env m := rfl
theorem w_scope {b : Code} : W P K0 R (.scope b) E L env m Q = W P K0 R b E L env m Q := rfl
theorem w_label {l : Nat} : W P K0 R (.label l) E L env m Q = Q .nrm env m := rfl
end

end Go.Proofs.Ytnhejkfbnjopjaa.Ab
