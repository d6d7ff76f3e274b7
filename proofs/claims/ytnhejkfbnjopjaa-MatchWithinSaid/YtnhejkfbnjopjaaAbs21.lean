/- More rules for running by rewriting. No condition. -/
import Derived.Test.YtnhejkfbnjopjaaAbs20
import Derived.KernelRfl
namespace Go.Proofs.Ytnhejkfbnjopjaa.Ab
open Go
set_option linter.unusedSimpArgs false
set_option linter.unusedVariables false

theorem evO_tmp (e : Env) (t : Nat) : evO e (.tmp t) = e t := rfl
theorem evO_int (e : Env) (k : IntKind) (n : Int) : evO e (.const (.int k n)) = .int k n := rfl
theorem evO_bool (e : Env) (b : Bool) : evO e (.const (.bool b)) = .bool b := rfl
theorem evO_str (e : Env) (b : ByteArray) : evO e (.const (.string b)) = .str b := rfl
theorem evO_func (e : Env) (f : FuncId) : evO e (.func f) = .fn f [] [] := rfl
theorem evO_const (e : Env) (v : Value) : evO e (.const v) = constV v := rfl
theorem put_some (e : Env) (t : Nat) (v : V) : put e (some t) v = upd e t v := rfl
theorem put_none (e : Env) (v : V) : put e none v = e := rfl
theorem mkEnv_nil (t : Nat) : mkEnv [] t = .unk := rfl
theorem mkEnv_cons (k : Nat) (v : V) (r : List (Nat × V)) (t : Nat) : mkEnv ((k, v) :: r) t = if k = t then v else mkEnv r t := upd_at _ _ _ _
theorem endQ_ret {P : Program} {fn : Func} {Q : CR → Prop} {env : Env} {m : Mem} : endQ P fn Q .ret env m = bindO (resV P fn env m) fun v => Q (.ret v m) := by
  simp only [endQ, bindO]
  cases resV P fn env m <;> simp
theorem endQ_nrm {P : Program} {fn : Func} {Q : CR → Prop} {env : Env} {m : Mem} : endQ P fn Q .nrm env m = bindO (resV P fn env m) fun v => Q (.ret v m) := by
  simp only [endQ, bindO]
  cases resV P fn env m <;> simp
theorem argEnv_at (vs : List V) (t : Nat) : argEnv vs t = vs.getD t .unk := rfl
theorem resV_tmp {P : Program} {fn : Func} {t : Nat} (h : fn.results.toList = [.tmp t]) (env : Env) (m : Mem) : resV P fn env m = some (env t) := by
  unfold resV; rw [h]; rfl
theorem resV_cell {P : Program} {fn : Func} {a t : Nat} (h : fn.results.toList = [.cell a t]) (env : Env) (m : Mem) : resV P fn env m = loadV P m t (env a) := by
  unfold resV; rw [h]
  simp only [List.mapM_cons, List.mapM_nil, resOne]
  cases loadV P m t (env a) <;> rfl
theorem resV_cell_tmp {P : Program} {fn : Func} {a t b : Nat} (h : fn.results.toList = [.cell a t, .tmp b]) (env : Env) (m : Mem) : resV P fn env m = (loadV P m t (env a)).bind fun v => some (.tup [v, env b]) := by
  unfold resV; rw [h]
  simp only [List.mapM_cons, List.mapM_nil, resOne]
  cases loadV P m t (env a) <;> rfl
theorem resV_tmp_tmp {P : Program} {fn : Func} {a b : Nat} (h : fn.results.toList = [.tmp a, .tmp b]) (env : Env) (m : Mem) : resV P fn env m = some (.tup [env a, env b]) := by
  unfold resV; rw [h]; rfl

theorem ans_ret {v x : V} {m : Mem} (h : v = x) : ∃ m1, CR.ret v m = CR.ret x m1 := ⟨m, by rw [h]⟩
theorem ans_iff {v x : V} {m : Mem} : (∃ m1, CR.ret v m = CR.ret x m1) = (v = x) := by
  apply propext
  constructor
  · rintro ⟨m1, h⟩; cases h; rfl
  · intro h; exact ans_ret h

section
variable {P : Program} {m : Mem} {t : TypeId} {K : V → Mem → Prop} {Kp : V → Mem → Prop}

def wantK (want : Bool) : V → Option Bool
  | .bool b => some (b == want)
  | .tup [] => some false
  | _ => none
theorem wantK_t (b : Bool) : wantK true (.bool b) = some b := by cases b <;> rfl
theorem wantK_f (b : Bool) : wantK false (.bool b) = some (!b) := by cases b <;> rfl
theorem wantK_n (w : Bool) : wantK w (.tup []) = some false := rfl
theorem wantD_at {all : Array Oper} {env : Env} {d : Option Nat} {op : Op} {ty : TypeId} {pos : String} {af : Array Edge} {j : Nat} {want : Bool} :
    wantD all env ⟨d, op, ty, pos, af, some (j, want)⟩ = ((all[j]?).bind fun o => o.dst).bind fun t => wantK want (env t) := by
  simp only [wantD]
  cases (all[j]?).bind fun o => o.dst with
  | none => rfl
  | some t =>
    simp only [Option.bind_some]
    unfold wantK
    rfl

/-- Calls whose answer is known, by rewriting one way. -/
theorem callD_of {f : FuncId} {vs : List V} {v : V} (h : Ans P f vs v) (he : enterable P f = true) (hn : nfs vs = true) (hv : nf v = true) {G : Prop} (hg : G → K v m) (g : G) : callD P f vs m K Kp := callD_ans h he hn hv (hg g)

theorem iaddrA_nat {n s k off j : Nat} {kk : IntKind} (h : j < n) : iaddrA n s (.ptr k off) (.int kk (j : Int)) = some (.ptr k (off + j * s)) := by
  unfold iaddrA
  simp only
  rw [if_pos ⟨by omega, by omega⟩]
  simp
theorem indexA_nat {n s : Nat} {l : List V} {agg : Bool} {j : Nat} {kk : IntKind} (h : j < n) : indexA n agg s (.agg l) (.int kk (j : Int)) = partK agg s l (j * s) := by
  unfold indexA
  simp only
  rw [if_pos ⟨by omega, by omega⟩]
  simp
theorem partK_one {s off : Nat} {l : List V} : partK false s l off = l[off]? := rfl
theorem partK_cl {s n off : Nat} {k : IntKind} {f : Nat → Int} (h : off + s ≤ n) : partK true s (cl k n f) off = some (.agg (cl k s fun i => f (off + i))) := by
  unfold partK
  simp only [cond_true, cl_length]
  rw [if_pos h, cl_part h]
theorem partK_all {s n : Nat} {k : IntKind} {f : Nat → Int} (h : s = n) : partK true s (cl k n f) 0 = some (.agg (cl k n f)) := by
  subst h
  rw [partK_cl (by omega)]
  simp
theorem loadK_ptr {agg : Bool} {s n off : Nat} : loadK agg s m (.ptr n off) = (m[n]?).bind fun b => match b with | .var _ l => partK agg s l off | _ => none := by
  simp only [loadK, cellsAt]
  cases m[n]? with
  | none => rfl
  | some b => cases b <;> rfl
theorem storeK_one {n off : Nat} {v : V} (h : oneV v = true) : storeK 1 m (.ptr n off) v = (m[n]?).bind fun b => match b with
    | .var ty l => if off < l.length then some (m.set n (.var ty (l.set off v))) else none
    | _ => none := by
  have hc : cellsOfV v = [v] := by cases v <;> first | rfl | (simp [oneV] at h)
  have hb : cellsB v = true := by cases v <;> first | rfl | (simp [oneV] at h)
  unfold storeK
  rw [hc, hb]
  simp only [List.length_singleton, and_self, if_true]
  cases m[n]? with
  | none => rfl
  | some b =>
    cases b with
    | var ty l =>
      simp only [Option.bind_some]
      by_cases h1 : off < l.length
      · rw [if_pos (by omega), if_pos h1, splice_one h1]
      · rw [if_neg (by omega), if_neg h1]
    | _ => rfl
theorem storeK_int {n off : Nat} {k : IntKind} {a : Int} : storeK 1 m (.ptr n off) (.int k a) = (m[n]?).bind fun b => match b with
    | .var ty l => if off < l.length then some (m.set n (.var ty (l.set off (.int k a)))) else none
    | _ => none := storeK_one rfl
theorem storeK_agg {s n off : Nat} {cs : List V} (h : cs.length = s) : storeK s m (.ptr n off) (.agg cs) = (m[n]?).bind fun b => match b with
    | .var ty l => if off + s ≤ l.length then some (m.set n (.var ty (splice l off cs))) else none
    | _ => none := by
  subst h
  unfold storeK
  simp only [cellsOfV, cellsB, and_self, if_true]
  cases m[n]? with
  | none => rfl
  | some b => cases b <;> rfl
theorem b_bool_eql {a b : Bool} (h : isBoolT P t = true) : binV P .eql t (.bool a) (.bool b) = some (.bool (a == b)) := by
  simp [binV, eqV, h]
theorem b_bool_neq {a b : Bool} (h : isBoolT P t = true) : binV P .neq t (.bool a) (.bool b) = some (.bool (!(a == b))) := by
  simp [binV, eqV, h]
theorem b_agg_eql (a b : List V) : binV P .eql t (.agg a) (.agg b) = (eqV P t (.agg a) (.agg b)).map V.bool := by
  simp [binV]
theorem b_agg_neq (a b : List V) : binV P .neq t (.agg a) (.agg b) = (eqV P t (.agg a) (.agg b)).map fun b => V.bool (!b) := by
  simp [binV]
def eqN (n : Nat) (f g : Nat → Int) : Bool := decide (∀ i, i < n → f i = g i)
theorem eqN_iff {n : Nat} {f g : Nat → Int} : eqN n f g = true ↔ ∀ i, i < n → f i = g i := by simp [eqN]
theorem eqV_cl {k : IntKind} {n : Nat} {f g : Nat → Int} (h0 : (P.keyTypeAt 8 t && (!P.eqGuardType P.depth t && isAggT P t)) = true) (h1 : litsV P t (cl k n f) = some ((List.range n).map fun i => Lit.int k (f i))) (h2 : litsV P t (cl k n g) = some ((List.range n).map fun i => Lit.int k (g i))) :
    eqV P t (.agg (cl k n f)) (.agg (cl k n g)) = some (eqN n f g) := by
  simp only [eqV, eqN, h0, h1, h2, cond_true, lits_eq]
end
end Go.Proofs.Ytnhejkfbnjopjaa.Ab
