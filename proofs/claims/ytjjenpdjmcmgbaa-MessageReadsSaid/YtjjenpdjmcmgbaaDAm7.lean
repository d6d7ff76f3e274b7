/- Regions whose order is open, run by rewriting. No condition. Regions with writes, run by rewriting; rows of whole numbers told by a function. No condition. Regions that come to a call that panics, run by rewriting. No condition. More rules for running by rewriting. No condition. Whole values compared: the law of keyLits on flat types. No condition. From a contract to a row: what the arguments are, and what the call leaves. No condition. Loops' states told by their values (for values that hold rows of no known length). No condition. -/
import Derived.Test.YtjjenpdjmcmgbaaDAm6
import Derived.Laws.Bits64
import Derived.Laws.Bits64b
import Derived.KernelRfl
import Derived.ProofKit
import Derived.WalkKit
import Derived.OpenShut
import Derived.ShutString
import Derived.ChangeOld
import Derived.Below
import Derived.SizedLaws
namespace Go.Proofs.Ytjjenpdjmcmgbaa.Ab
open Go
set_option linter.unusedSimpArgs false
set_option linter.unusedVariables false
/-- Operations that only read. -/
def quietOp : Op → Bool
  | .move _ | .assign _ | .pick _ _ _ | .build _ _ | .nilCheck _ | .binOp _ _ _ _ _ | .unOp _ _ _ | .convert _ _ _ | .makeFunc _ _ _ | .makeInterface _ _ | .slice _ _ _ _ _
  | .fieldAddr _ _ _ | .field _ _ _ | .indexAddr _ _ _ | .index _ _ _ | .extract _ _ | .load _ _ => true
  | .call { callee := .builtin .len, .. } => true
  | .call { callee := .builtin .min, .. } => true
  | .call { callee := .builtin .max, .. } => true
  | .lookup _ _ _ _ => true
  | _ => false
def callQ0 (P : Program) (f : FuncId) (vs : List V) (K : V → Prop) : Prop := nfs vs = true ∧ enterable P f = true ∧ ∃ v, nf v = true ∧ Ans P f vs v ∧ K v
/-- A call that turns nothing: by a contract on values alone, or on what some blocks hold. -/
def callQ (P : Program) (f : FuncId) (vs : List V) (m : Mem) (K : V → Prop) : Prop := callQ0 P f vs K ∨
  (enterable P f = true ∧ ∃ (v : V) (rd : List Nat), (∀ n ∈ rd, n < m.length) ∧ (∀ m2 : Mem, (∀ n ∈ rd, m2[n]? = m[n]?) → Snd P f vs m2 fun r => r = .ret v m2) ∧ K v)
@[congr] theorem callQ_congr {tk : Prop} {P : Program} {f : FuncId} {vs vs' : List V} {m m' : Mem} {K : V → Prop} (h : vs = vs') (hm : m = m') (htk : tick = tk) : callQ P f vs m K = callQ P f vs' m' K := by rw [h, hm]
/-- A literal told as a row that is not written again. -/
def litQ (P : Program) (op : Op) (e : Operand → V) : Option V := match op with
  | .buildSlice t n ps => bif nfs (ps.toList.map fun p => e p.2) then match bsliceV P t n (ps.toList.map fun p => (p.1, e p.2)) [] with
    | some (.sl sz 0 0 n', [.row _ sz' es]) => bif Nat.beq n' n && (Nat.beq sz' sz && (Nat.beq es.length n && nfss es)) then some (.isl sz es) else none
    | _ => none
    else none
  | _ => none
theorem quiet_lit {P : Program} {op : Op} {e : Operand → V} (h : quietOp op = true) : litQ P op e = none := by
  cases op <;> first | rfl | (simp [quietOp] at h)
theorem litQ_C {P : Program} {o : Oper} {env : Env} {m : Mem} {u : V} (h : litQ P o.op (evO env) = some u) : LitC P o env m u m ⟨[], [], false⟩ := by
  unfold litQ at h
  split at h
  · rename_i t n ps hop
    cases hn : nfs (ps.toList.map fun p => evO env p.2) with
    | false => rw [hn] at h; cases h
    | true =>
      rw [hn] at h
      simp only [cond_true] at h
      split at h
      · rename_i sz n' e sz' es hb
        cases hc : Nat.beq n' n && (Nat.beq sz' sz && (Nat.beq es.length n && nfss es)) with
        | false => rw [hc] at h; cases h
        | true =>
          rw [hc] at h
          simp only [cond_true, Option.some.injEq] at h
          subst h
          simp only [Bool.and_eq_true, Nat.beq_eq] at hc
          obtain ⟨rfl, rfl, h3, h4⟩ := hc
          exact ⟨t, n', ps, e, sz', es, hop, hn, hb, h3, h4, rfl, rfl, rfl⟩
      · cases h
  · cases h
def runQ (P : Program) (all : Array Oper) (K : Env → Mem → Prop) : List Oper → Env → Mem → Prop
  | [], env, m => K env m
  | o :: r, env, m => match wantD all env o with
    | none => False
    | some false => runQ P all K r (put env o.dst (.tup [])) m
    | some true => match litQ P o.op (evO env) with
      | some v => runQ P all K r (put env o.dst v) m
      | none => match calleeV (evO env) o.op with
        | some (f, vs) => callQ P f vs m fun v => runQ P all K r (put env o.dst v) m
        | none => match execD P (evO env) m o.op with
          | some (.val v _) => quietOp o.op = true ∧ runQ P all K r (put env o.dst v) m
          | _ => False
section
variable {P : Program} {all : Array Oper} {r : List Oper} {env : Env} {m : Mem} {K : Env → Mem → Prop} {d : Option Nat} {ty : TypeId} {pos : String} {af : Array Edge}
@[congr] theorem runQ_congr {tk : Prop} {l : List Oper} {env' : Env} {m' : Mem} (h1 : env = env') (h2 : m = m') (htk : tick = tk) : runQ P all K l env m = runQ P all K l env' m' := by rw [h1, h2]
theorem cellsAt_lt {p : V} {l : List V} {o : Nat} (h : cellsAt m p = some (l, o)) : ∀ n ∈ nms p, n < m.length := by
  have lt : ∀ {k : Nat} {b : B}, m[k]? = some b → k < m.length := fun hm => (List.getElem?_eq_some_iff.1 hm).1
  intro n hn
  cases p with
  | ptr k o' =>
    simp [nms] at hn; subst hn
    simp only [cellsAt] at h
    cases hm : m[n]? with
    | none => rw [hm] at h; cases h
    | some b => exact lt hm
  | ep s k i o' =>
    simp [nms] at hn; subst hn
    simp only [cellsAt] at h
    cases hm : m[n]? with
    | none => rw [hm] at h; cases h
    | some b => exact lt hm
  | _ => first | (simp [nms] at hn; done) | (simp [cellsAt] at h; done)
/-- What only reads has its places, and nothing else. -/
theorem quiet_info {op : Op} {v : V} {m1 : Mem} (hc : calleeV (evO env) op = none) (h : execD P (evO env) m op = some (.val v m1)) (hq : quietOp op = true) :
    m1 = m ∧ ∃ rd, infoD (evO env) m op v = some ⟨rd, [], false⟩ ∧ ∀ n ∈ rd, n < m.length := by
  have pure : ∀ {o : Option V}, execD P (evO env) m op = o.map (Res.val · m) → m1 = m := by
    intro o e
    rw [e] at h
    cases o with
    | none => cases h
    | some u => simp at h; exact h.2.symm
  unfold infoD
  rw [hc]
  cases op with
  | call c =>
    obtain ⟨cal, args, ts⟩ := c
    cases cal with
    | builtin b =>
      cases b
      case len =>
        simp only [execD] at h
        split at h
        · rename_i x t hargs hts
          rw [Option.map_eq_some_iff] at h
          obtain ⟨u, h1, h2⟩ := h
          cases h2
          refine ⟨rfl, mnm (evO env x), by simp only [hargs], fun n hn => ?_⟩
          cases hx : evO env x <;> rw [hx] at h1 hn <;> simp [mnm] at hn <;> simp only [lenV] at h1
          · subst hn
            split at h1
            · cases hm : m[n]? with
              | none => rw [hm] at h1; cases h1
              | some b => exact (List.getElem?_eq_some_iff.1 hm).1
            · cases h1
        · cases h

      case min =>
        refine ⟨?_, [], rfl, by simp⟩
        simp only [execD] at h
        split at h
        · rw [Option.map_eq_some_iff] at h
          obtain ⟨u, h1, h2⟩ := h
          cases h2
          rfl
        · cases h
      case max =>
        refine ⟨?_, [], rfl, by simp⟩
        simp only [execD] at h
        split at h
        · rw [Option.map_eq_some_iff] at h
          obtain ⟨u, h1, h2⟩ := h
          cases h2
          rfl
        · cases h
      all_goals (simp [quietOp] at hq; done)
    | _ => simp [quietOp] at hq
  | load t a =>
    simp only [execD] at h
    have h' := h
    rw [Option.map_eq_some_iff] at h
    obtain ⟨u, h1, h2⟩ := h
    cases h2
    refine ⟨rfl, nms (evO env a), rfl, ?_⟩
    unfold loadV at h1
    cases hcl : cellsAt m (evO env a) with
    | none => rw [hcl] at h1; cases h1
    | some q => exact cellsAt_lt hcl
  | lookup t x k ok =>
    simp only [execD] at h
    rw [Option.map_eq_some_iff] at h
    obtain ⟨u, h1, h2⟩ := h
    cases h2
    refine ⟨rfl, mnm (evO env x), rfl, fun n hn => ?_⟩
    cases hx : evO env x <;> rw [hx] at h1 hn <;> simp [mnm] at hn
    subst hn
    cases hm : m[n]? with
    | none =>
      exfalso
      unfold lookupV at h1
      split at h1
      · rename_i kt et _
        cases hkv : keyV P kt (evO env k) with
        | false => rw [hkv] at h1; cases h1
        | true => rw [hkv] at h1; simp [hm] at h1
      · cases h1
    | some b => exact (List.getElem?_eq_some_iff.1 hm).1
  | move x => exact ⟨pure (o := some _) rfl, [], rfl, by simp⟩
  | assign x => exact ⟨pure (o := some _) rfl, [], rfl, by simp⟩
  | pick c x y =>
    refine ⟨?_, [], rfl, by simp⟩
    simp only [execD] at h
    cases hcv : evO env c <;> rw [hcv] at h <;> first | (cases h; done) | (cases h; rfl)
  | build t ps => exact ⟨pure rfl, [], rfl, by simp⟩
  | nilCheck x =>
    refine ⟨?_, [], rfl, by simp⟩
    simp only [execD] at h
    cases hn : nonnil (evO env x) <;> rw [hn] at h <;> cases h
    rfl
  | binOp b t x y yt => exact ⟨pure rfl, [], rfl, by simp⟩
  | unOp b t x => exact ⟨pure rfl, [], rfl, by simp⟩
  | convert s t x =>
    simp only [execD] at h
    rw [Option.map_eq_some_iff] at h
    obtain ⟨u, h1, h2⟩ := h
    cases h2
    refine ⟨rfl, bnm (evO env x), rfl, fun n hn => ?_⟩
    cases hx : evO env x <;> rw [hx] at h1 hn <;> simp [bnm] at hn
    subst hn
    cases hm : m[n]? with
    | none =>
      exfalso
      simp [convM, contV, hm] at h1
      repeat' split at h1
      all_goals cases h1
    | some b => exact (List.getElem?_eq_some_iff.1 hm).1
  | makeFunc f a b =>
    cases f with
    | func f => exact ⟨pure (o := some _) rfl, [], rfl, by simp⟩
    | _ => simp [execD] at h
  | makeInterface t x =>
    refine ⟨?_, [], rfl, by simp⟩
    simp only [execD] at h
    cases hn : P.concrete t <;> rw [hn] at h <;> cases h
    rfl
  | slice t x lo hi mx =>
    cases mx with
    | none => exact ⟨pure rfl, [], rfl, by simp⟩
    | some _ => simp [execD] at h
  | fieldAddr t x f => exact ⟨pure rfl, [], rfl, by simp⟩
  | field t x f => exact ⟨pure rfl, [], rfl, by simp⟩
  | indexAddr t x y => exact ⟨pure rfl, [], rfl, by simp⟩
  | index t x y => exact ⟨pure rfl, [], rfl, by simp⟩
  | extract x y => exact ⟨pure rfl, [], rfl, by simp⟩
  | _ => simp [quietOp] at hq
theorem runQ_drawn : ∀ (l : List Oper) (k : Nat) (acc : List (Nat × Info × Nat)) (env : Env) (m : Mem), (∀ x ∈ acc, x.2.1.wr = [] ∧ x.2.1.al = false) → runQ P all K l env m → runDrawn P all K k acc l env m
  | [], _, _, _, _, _, h => h
  | o :: r, k, acc, env, m, ha, h => by
    have nowr : ∀ rd : List Nat, acc.all (fun x => waits all o x.1 || indep x.2.1 x.2.2 ⟨rd, [], false⟩) = true := by
      intro rd
      rw [List.all_eq_true]
      intro x hx
      obtain ⟨h1, h2⟩ := ha x hx
      simp [indep, disj, h1, h2]
    simp only [runQ] at h
    simp only [runDrawn]
    cases hw : wantD all env o with
    | none => rw [hw] at h; exact h.elim
    | some bw =>
      cases bw with
      | false => rw [hw] at h; exact runQ_drawn r (k + 1) acc _ _ ha h
      | true =>
        rw [hw] at h
        simp only at h ⊢
        split at h
        · rename_i u hlit
          have hl := litQ_C (m := m) hlit
          have hpan : panicV (evO env) o.op = none := by
            obtain ⟨_, _, _, _, _, _, hop, _⟩ := hl
            rw [hop]; rfl
          refine ⟨u, m, ⟨[], [], false⟩, .inr (.inr hl), ⟨hpan, trivial, by simp, nowr []⟩, runQ_drawn r (k + 1) _ _ _ (fun x hx => ?_) h⟩
          rcases List.mem_cons.1 hx with rfl | hx
          · exact ⟨rfl, rfl⟩
          · exact ha x hx
        split at h
        · rename_i f vs hc
          have hpan : panicV (evO env) o.op = none := by
            unfold calleeV at hc
            split at hc
            · rename_i hop; rw [hop]; rfl
            · cases hc
          rcases h with ⟨h1, h2, v, h3, h4, h5⟩ | ⟨h2, v, rd, h3, h4, h5⟩
          · have hroots : rootsV m vs = [] := by unfold rootsV; rw [nfs_nmss vs h1]; rfl
            refine ⟨v, m, ⟨[], [], false⟩, .inl ⟨stepV_ans hc h4 h2 h1 h3, ?_⟩, ⟨hpan, trivial, by simp, nowr []⟩, runQ_drawn r (k + 1) _ _ _ (fun x hx => ?_) h5⟩
            · unfold infoD; rw [hc]; simp [hroots, h3]
            · rcases List.mem_cons.1 hx with rfl | hx
              · exact ⟨rfl, rfl⟩
              · exact ha x hx
          · refine ⟨v, m, ⟨rd, [], false⟩, .inr (.inl ⟨f, vs, rd, hc, h2, rfl, rfl, h4⟩), ⟨hpan, trivial, by simpa using h3, nowr rd⟩, runQ_drawn r (k + 1) _ _ _ (fun x hx => ?_) h5⟩
            rcases List.mem_cons.1 hx with rfl | hx
            · exact ⟨rfl, rfl⟩
            · exact ha x hx
        · rename_i hc
          split at h
          · rename_i v m1 hx
            obtain ⟨hq, h⟩ := h
            obtain ⟨rfl, rd, h2, h3⟩ := quiet_info hc hx hq
            refine ⟨v, m1, ⟨rd, [], false⟩, .inl ⟨?_, h2⟩, ⟨?_, trivial, by simpa using h3, nowr rd⟩, runQ_drawn r (k + 1) _ _ _ (fun x hx => ?_) h⟩
            · unfold StepV; rw [hc, hx]; exact ⟨rfl, rfl⟩
            · cases hop : o.op <;> first | rfl | (rw [hop] at hq; simp [quietOp] at hq)
            · rcases List.mem_cons.1 hx with rfl | hx
              · exact ⟨rfl, rfl⟩
              · exact ha x hx
          · exact h.elim
theorem w_quiet {K0 : Nat} {R : List Nat} {E : Nat → List Nat} {L : List Nat} {Q : Ex → Env → Mem → Prop} {id : Nat} {l : List Oper} (h : runQ P l.toArray (Q .nrm) l env m) : W P K0 R (.region id l.toArray true) E L env m Q :=
  .inl (runQ_drawn l 0 [] env m (by simp) h)
theorem q_nil : runQ P all K [] env m = K env m := rfl
theorem q_val {op : Op} {o : Option V} (hq : quietOp op = true) (h2 : calleeV (evO env) op = none) (h3 : execD P (evO env) m op = o.map (Res.val · m)) :
    runQ P all K (⟨d, op, ty, pos, af, none⟩ :: r) env m = bindO o fun v => runQ P all K r (put env d v) m := by
  simp only [runQ, wantD, quiet_lit hq, h2, h3]
  cases o with
  | none => rfl
  | some v => simp [hq, bindO]
theorem q_move {x : Operand} : runQ P all K (⟨d, .move x, ty, pos, af, none⟩ :: r) env m = runQ P all K r (put env d (evO env x)) m := by simp [runQ, wantD, litQ, calleeV, execD, quietOp]
theorem q_assign {x : Operand} : runQ P all K (⟨d, .assign x, ty, pos, af, none⟩ :: r) env m = runQ P all K r (put env d (evO env x)) m := by simp [runQ, wantD, litQ, calleeV, execD, quietOp]
theorem q_pick {c x y : Operand} : runQ P all K (⟨d, .pick c x y, ty, pos, af, none⟩ :: r) env m = boolK (evO env c) fun t => runQ P all K r (put env d (pickV t (evO env x) (evO env y))) m := by
  simp only [runQ, wantD, litQ, calleeV, execD]
  cases evO env c <;> simp [boolK, quietOp]
theorem q_build {t : TypeId} {ps : List (Nat × Operand)} : runQ P all K (⟨d, .build t ps.toArray, ty, pos, af, none⟩ :: r) env m = bindO (buildV P t (ps.map fun p => (p.1, evO env p.2))) fun v => runQ P all K r (put env d v) m := q_val rfl rfl rfl
theorem q_load {t : TypeId} {x : Operand} : runQ P all K (⟨d, .load t x, ty, pos, af, none⟩ :: r) env m = bindO (loadV P m t (evO env x)) fun v => runQ P all K r (put env d v) m := q_val rfl rfl rfl
theorem q_nilCheck {x : Operand} : runQ P all K (⟨d, .nilCheck x, ty, pos, af, none⟩ :: r) env m = bindO (bif nonnil (evO env x) then some () else none) fun _ => runQ P all K r (put env d (evO env x)) m := by
  simp only [runQ, wantD, litQ, calleeV, execD]
  cases nonnil (evO env x) <;> simp [bindO, quietOp]
theorem q_binOp {b : BinOp} {t u : TypeId} {x y : Operand} : runQ P all K (⟨d, .binOp b t x y u, ty, pos, af, none⟩ :: r) env m = bindO (binV P b t (evO env x) (evO env y)) fun v => runQ P all K r (put env d v) m := q_val rfl rfl rfl
theorem q_unOp {b : UnOp} {t : TypeId} {x : Operand} : runQ P all K (⟨d, .unOp b t x, ty, pos, af, none⟩ :: r) env m = bindO (unV b (evO env x)) fun v => runQ P all K r (put env d v) m := q_val rfl rfl rfl
theorem q_convert {s t : TypeId} {x : Operand} : runQ P all K (⟨d, .convert s t x, ty, pos, af, none⟩ :: r) env m = bindO (convM P m s t (evO env x)) fun v => runQ P all K r (put env d v) m := q_val rfl rfl rfl
theorem q_slice {t : TypeId} {x : Operand} {lo hi : Option Operand} : runQ P all K (⟨d, .slice t x lo hi none, ty, pos, af, none⟩ :: r) env m = bindO (sliceV P t (evO env x) (lo.map (evO env)) (hi.map (evO env))) fun v => runQ P all K r (put env d v) m := q_val rfl rfl rfl
theorem q_fieldAddr {t : TypeId} {x : Operand} {f : Nat} : runQ P all K (⟨d, .fieldAddr t x f, ty, pos, af, none⟩ :: r) env m = bindO (faddrV P t f (evO env x)) fun v => runQ P all K r (put env d v) m := q_val rfl rfl rfl
theorem q_field {t : TypeId} {x : Operand} {f : Nat} : runQ P all K (⟨d, .field t x f, ty, pos, af, none⟩ :: r) env m = bindO (fieldV P t f (evO env x)) fun v => runQ P all K r (put env d v) m := q_val rfl rfl rfl
theorem q_indexAddr {t : TypeId} {x y : Operand} : runQ P all K (⟨d, .indexAddr t x y, ty, pos, af, none⟩ :: r) env m = bindO (iaddrV P t (evO env x) (evO env y)) fun v => runQ P all K r (put env d v) m := q_val rfl rfl rfl
theorem q_index {t : TypeId} {x y : Operand} : runQ P all K (⟨d, .index t x y, ty, pos, af, none⟩ :: r) env m = bindO (indexV P t (evO env x) (evO env y)) fun v => runQ P all K r (put env d v) m := q_val rfl rfl rfl
theorem q_extract {x : Operand} {i : Nat} : runQ P all K (⟨d, .extract x i, ty, pos, af, none⟩ :: r) env m = bindO (extractV i (evO env x)) fun v => runQ P all K r (put env d v) m := q_val rfl rfl rfl
theorem q_len {x : Operand} {t : TypeId} : runQ P all K (⟨d, .call { callee := .builtin .len, args := #[x], argTypes := #[t] }, ty, pos, af, none⟩ :: r) env m = bindO (lenV P m t (evO env x)) fun v => runQ P all K r (put env d v) m := q_val rfl rfl rfl
theorem q_lookup {x k : Operand} {t : TypeId} {ok : Bool} : runQ P all K (⟨d, .lookup t x k ok, ty, pos, af, none⟩ :: r) env m = bindO (lookupV P t m (evO env x) (evO env k) ok) fun v => runQ P all K r (put env d v) m := q_val rfl rfl rfl
theorem q_call {f : Operand} {args : List Operand} {ts : Array TypeId} : runQ P all K (⟨d, .call { callee := .value f, args := args.toArray, argTypes := ts }, ty, pos, af, none⟩ :: r) env m =
    bindO (calleeK (evO env) f args) fun p => callQ P p.1 p.2 m fun v => runQ P all K r (put env d v) m := by
  simp only [runQ, wantD, litQ, calleeV, calleeK, execD]
  cases evO env f <;> rfl
def litV (P : Program) (t : TypeId) (n : Nat) (ps : List (Nat × V)) : Option V := bif nfs (ps.map (·.2)) then match bsliceV P t n ps [] with
    | some (.sl sz 0 0 n', [.row _ sz' es]) => bif Nat.beq n' n && (Nat.beq sz' sz && (Nat.beq es.length n && nfss es)) then some (.isl sz es) else none
    | _ => none
    else none
theorem q_buildSlice {t : TypeId} {n : Nat} {ps : List (Nat × Operand)} {v : V} (h : litV P t n (ps.map fun p => (p.1, evO env p.2)) = some v) (hk : runQ P all K r (put env d v) m) : runQ P all K (⟨d, .buildSlice t n ps.toArray, ty, pos, af, none⟩ :: r) env m := by
  have : litQ P (.buildSlice t n ps.toArray) (evO env) = some v := by
    rw [← h]
    unfold litQ litV
    simp only [List.map_map]
    rfl
  simp only [runQ, wantD, this]
  exact hk
theorem q_guard {op : Op} {j : Nat} {want : Bool} : runQ P all K (⟨d, op, ty, pos, af, some (j, want)⟩ :: r) env m =
    bindO (wantD all env ⟨d, op, ty, pos, af, some (j, want)⟩) fun b => testP b (runQ P all K (⟨d, op, ty, pos, af, none⟩ :: r) env m) (runQ P all K r (put env d (.tup [])) m) := by
  have : wantD all env ⟨d, op, ty, pos, af, none⟩ = some true := rfl
  simp only [runQ, this]
  cases wantD all env ⟨d, op, ty, pos, af, some (j, want)⟩ with
  | none => rfl
  | some b => cases b <;> simp only [bindO_some, testP_true, testP_false]
theorem callQ0_ans {f : FuncId} {vs : List V} {K : V → Prop} {v : V} (h : Ans P f vs v) (he : enterable P f = true) (hn : nfs vs = true) (hv : nf v = true) (hk : K v) : callQ0 P f vs K := ⟨hn, he, v, hv, h, hk⟩
theorem callQ_ans {f : FuncId} {vs : List V} {K : V → Prop} {v : V} (h : Ans P f vs v) (he : enterable P f = true) (hn : nfs vs = true) (hv : nf v = true) (hk : K v) : callQ P f vs m K := .inl ⟨hn, he, v, hv, h, hk⟩
def accB (all : Array Oper) (acc : List (Nat × Info × Nat)) (o : Oper) (inf : Info) (len : Nat) : Bool := (inf.rd ++ inf.wr).all (fun n => Nat.blt n len) && acc.all fun x => waits all o x.1 || indep x.2.1 x.2.2 inf
end
end Go.Proofs.Ytjjenpdjmcmgbaa.Ab
namespace Go.Proofs.Ytjjenpdjmcmgbaa.Ab
open Go
set_option linter.unusedSimpArgs false
set_option linter.unusedVariables false
def isPure (i : Info) : Bool := i.rd.isEmpty && (i.wr.isEmpty && !i.al)
/-- A call in a drawn region: by a contract on values alone, or on rows of the caller's. -/
def callE (P : Program) (f : FuncId) (vs : List V) (m : Mem) (K0 : V → Prop) (K1 : V → Mem → List Nat → Prop) : Prop :=
  callQ0 P f vs K0 ∨ (okCall (rootsV m vs) m vs = true ∧ enterable P f = true ∧ ∃ v1 m1, Snd P f (rens (idx (rootsV m vs)) vs) (view (rootsV m vs) m) (fun r => r = .ret v1 m1) ∧ okBack (rootsV m vs) v1 m1 = true ∧
    ((rootsV m vs).isEmpty && nf (ren (back (rootsV m vs) m.length) v1)) = false ∧ K1 (ren (back (rootsV m vs) m.length) v1) (merge (rootsV m vs) m m1) (rootsV m vs))
@[congr] theorem callE_congr {tk : Prop} {P : Program} {f : FuncId} {vs vs' : List V} {m m' : Mem} {K0 : V → Prop} {K1 : V → Mem → List Nat → Prop} (h : vs = vs') (hm : m = m') (htk : tick = tk) : callE P f vs m K0 K1 = callE P f vs' m' K0 K1 := by rw [h, hm]
theorem callE_ans {P : Program} {f : FuncId} {vs : List V} {m : Mem} {K0 : V → Prop} {K1 : V → Mem → List Nat → Prop} {v : V} (h : Ans P f vs v) (he : enterable P f = true) (hn : nfs vs = true) (hv : nf v = true) (hk : K0 v) : callE P f vs m K0 K1 := .inl (callQ0_ans h he hn hv hk)
/-- Here no bytes in memory become a string. -/
def execE (P : Program) (e : Operand → V) (m : Mem) : Op → Option Res
  | .convert s d x => (convV P s d (e x)).map (.val · m)
  | op => execD P e m op
theorem convV_M {P : Program} {m : Mem} {s d : TypeId} {x v : V} (h : convV P s d x = some v) : convM P m s d x = some v ∧ bnm x = [] := by
  cases x <;> first | exact ⟨h, rfl⟩ | (simp [convV] at h)
theorem execE_D {P : Program} {e : Operand → V} {m : Mem} {op : Op} {r : Res} (h : execE P e m op = some r) : execD P e m op = some r := by
  cases op <;> try exact h
  simp only [execE, execD] at h ⊢
  rw [Option.map_eq_some_iff] at h ⊢
  obtain ⟨v, h1, h2⟩ := h
  exact ⟨v, (convV_M h1).1, h2⟩
/-- Here no literal takes rows. -/
def infoE (e : Operand → V) (m : Mem) (op : Op) (v : V) : Option Info := match op with
  | .buildSlice t n ps => bif stys (ps.toList.map fun p => e p.2) then infoD e m (.buildSlice t n ps) v else none
  | op => infoD e m op v
theorem infoE_D {e : Operand → V} {m : Mem} {op : Op} {v : V} {i : Info} (h : infoE e m op v = some i) : infoD e m op v = some i := by
  cases op <;> try exact h
  rename_i t n ps
  simp only [infoE] at h
  cases hs : stys (ps.toList.map fun p => e p.2) with
  | false => rw [hs] at h; cases h
  | true => rw [hs] at h; exact h
/-- A drawn region with writes; what touches nothing is not kept. -/
def runE (P : Program) (all : Array Oper) (K : List (Nat × Info × Nat) → Env → Mem → Prop) : Nat → List (Nat × Info × Nat) → List Oper → Env → Mem → Prop
  | _, acc, [], env, m => K acc env m
  | k, acc, o :: r, env, m => match wantD all env o with
    | none => False
    | some false => runE P all K (k + 1) acc r (put env o.dst (.tup [])) m
    | some true => match calleeV (evO env) o.op with
      | some (f, vs) => callE P f vs m (fun v => runE P all K (k + 1) acc r (put env o.dst v) m) fun v m1 L => accB all acc o ⟨[], L, true⟩ m.length = true ∧ runE P all K (k + 1) ((k, ⟨[], L, true⟩, m.length) :: acc) r (put env o.dst v) m1
      | none => panicV (evO env) o.op = none ∧ match execE P (evO env) m o.op with
        | some (.val v m1) => (match infoE (evO env) m o.op v with
          | some inf => accB all acc o inf m.length = true ∧ runE P all K (k + 1) (bif isPure inf then acc else (k, inf, m.length) :: acc) r (put env o.dst v) m1
          | none => False)
        | some (.skip m1) => (match infoE (evO env) m o.op (.tup []) with
          | some inf => accB all acc o inf m.length = true ∧ runE P all K (k + 1) (bif isPure inf then acc else (k, inf, m.length) :: acc) r (put env o.dst (.tup [])) m1
          | none => False)
        | _ => False
section
variable {P : Program} {all : Array Oper} {r : List Oper} {env : Env} {m : Mem} {K : List (Nat × Info × Nat) → Env → Mem → Prop} {d : Option Nat} {ty : TypeId} {pos : String} {af : Array Edge} {k : Nat} {acc : List (Nat × Info × Nat)}
@[congr] theorem runE_congr {tk : Prop} {l : List Oper} {env' : Env} {m' : Mem} (h1 : env = env') (h2 : m = m') (htk : tick = tk) : runE P all K k acc l env m = runE P all K k acc l env' m' := by rw [h1, h2]
theorem indep_pure {i : Info} (h : isPure i = true) (n : Nat) (j : Info) : indep i n j = true := by
  obtain ⟨rd, wr, al⟩ := i
  unfold isPure at h
  simp only [Bool.and_eq_true, List.isEmpty_iff, Bool.not_eq_true'] at h
  obtain ⟨rfl, rfl, rfl⟩ := h
  rfl
/-- A region's first operations, and what stands behind them. -/
theorem runE_then {Z : Nat → List (Nat × Info × Nat) → List Oper → Env → Mem → Prop} {tl : List Oper}
    (stepF : ∀ k acc o r env m, wantD all env o = some false → Z (k + 1) acc (r ++ tl) (put env o.dst (.tup [])) m → Z k acc (o :: (r ++ tl)) env m)
    (stepT : ∀ k acc o r env m, wantD all env o = some true → (∃ v m' inf, StepI P o env m v m' inf ∧ fits all o env m v acc inf ∧ Z (k + 1) ((k, inf, m.length) :: acc) (r ++ tl) (put env o.dst v) m') → Z k acc (o :: (r ++ tl)) env m)
    (done : ∀ k acc acc' env m, (∀ x ∈ acc', x ∈ acc ∨ isPure x.2.1 = true) → K acc env m → Z k acc' tl env m) :
    ∀ (l : List Oper) (k : Nat) (acc acc' : List (Nat × Info × Nat)) (env : Env) (m : Mem), (∀ x ∈ acc', x ∈ acc ∨ isPure x.2.1 = true) → runE P all K k acc l env m → Z k acc' (l ++ tl) env m
  | [], k, acc, acc', env, m, ha, h => done k acc acc' env m ha h
  | o :: r, k, acc, acc', env, m, ha, h => by
    have more : ∀ {inf : Info}, accB all acc o inf m.length = true → acc'.all (fun x => waits all o x.1 || indep x.2.1 x.2.2 inf) = true := by
      intro inf hb
      unfold accB at hb
      rw [Bool.and_eq_true] at hb
      rw [List.all_eq_true] at hb ⊢
      rw [List.all_eq_true] at hb
      intro x hx
      rcases ha x hx with h1 | h1
      · exact hb.2 x h1
      · simp [indep_pure h1]
    have more2 : ∀ (inf : Info) (x : Nat × Info × Nat), x ∈ (k, inf, m.length) :: acc' → x ∈ (bif isPure inf then acc else (k, inf, m.length) :: acc) ∨ isPure x.2.1 = true := by
      intro inf x hx
      cases hp : isPure inf with
      | true =>
        rcases List.mem_cons.1 hx with rfl | hx
        · exact .inr hp
        · exact ha x hx
      | false =>
        rcases List.mem_cons.1 hx with rfl | hx
        · exact .inl (by simp)
        · rcases ha x hx with h1 | h1
          · exact .inl (by simp [h1])
          · exact .inr h1
    simp only [runE] at h
    cases hw : wantD all env o with
    | none => rw [hw] at h; exact h.elim
    | some bw =>
      cases bw with
      | false => rw [hw] at h; exact stepF k acc' o r env m hw (runE_then stepF stepT done r (k + 1) acc acc' _ _ ha h)
      | true =>
        rw [hw] at h
        refine stepT k acc' o r env m hw ?_
        simp only at h
        split at h
        · rename_i f vs hc
          have hpan : panicV (evO env) o.op = none := by
            unfold calleeV at hc
            split at hc
            · rename_i hop; rw [hop]; rfl
            · cases hc
          rcases h with h | ⟨g1, g2, v1, m1, g3, g4, g5, g6, g7⟩
          · obtain ⟨h1, h2, v, h3, h4, h5⟩ := h
            have hroots : rootsV m vs = [] := by unfold rootsV; rw [nfs_nmss vs h1]; rfl
            refine ⟨v, m, ⟨[], [], false⟩, .inl ⟨stepV_ans hc h4 h2 h1 h3, ?_⟩, ⟨hpan, trivial, by simp, ?_⟩, runE_then stepF stepT done r (k + 1) _ _ _ _ (fun x hx => ?_) h5⟩
            · unfold infoD; rw [hc]; simp [hroots, h3]
            · rw [List.all_eq_true]
              intro x _
              simp [indep, disj]
            · rcases List.mem_cons.1 hx with rfl | hx
              · exact .inr rfl
              · exact ha x hx
          · refine ⟨_, _, ⟨[], rootsV m vs, true⟩, .inl ⟨?_, ?_⟩, ⟨hpan, trivial, ?_, more g6⟩, runE_then stepF stepT done r (k + 1) _ _ _ _ (fun x hx => ?_) g7⟩
            · unfold StepV
              rw [hc]
              exact ⟨g1, g2, .inr ⟨v1, m1, g3, g4, g5, rfl, rfl⟩⟩
            · unfold infoD
              rw [hc]
              simp only [g5, Bool.not_false]
            · unfold accB at g6
              rw [Bool.and_eq_true] at g6
              exact g6.1
            · rcases List.mem_cons.1 hx with rfl | hx
              · exact .inl (by simp)
              · rcases ha x hx with h1 | h1
                · exact .inl (by simp [h1])
                · exact .inr h1
        · rename_i hc
          obtain ⟨hp, h⟩ := h
          split at h
          · rename_i v m1 hx
            split at h
            · rename_i inf hinf
              obtain ⟨ha1, h⟩ := h
              refine ⟨v, m1, inf, .inl ⟨by unfold StepV; rw [hc, execE_D hx]; exact ⟨rfl, rfl⟩, infoE_D hinf⟩, ⟨hp, trivial, ?_, more ha1⟩, runE_then stepF stepT done r (k + 1) _ _ _ _ (more2 inf) h⟩
              unfold accB at ha1
              rw [Bool.and_eq_true] at ha1
              exact ha1.1
            · exact h.elim
          · rename_i m1 hx
            split at h
            · rename_i inf hinf
              obtain ⟨ha1, h⟩ := h
              refine ⟨.tup [], m1, inf, .inl ⟨by unfold StepV; rw [hc, execE_D hx]; exact ⟨rfl, rfl⟩, infoE_D hinf⟩, ⟨hp, trivial, ?_, more ha1⟩, runE_then stepF stepT done r (k + 1) _ _ _ _ (more2 inf) h⟩
              unfold accB at ha1
              rw [Bool.and_eq_true] at ha1
              exact ha1.1
            · exact h.elim
          · exact h.elim
theorem runE_drawn {K : Env → Mem → Prop} (l : List Oper) (k : Nat) (acc acc' : List (Nat × Info × Nat)) (env : Env) (m : Mem) (ha : ∀ x ∈ acc', x ∈ acc ∨ isPure x.2.1 = true) (h : runE P all (fun _ => K) k acc l env m) : runDrawn P all K k acc' l env m := by
  have := runE_then (Z := fun k acc l env m => runDrawn P all K k acc l env m) (tl := []) (fun k acc o r env m hw h => by simp only [runDrawn, hw]; exact h) (fun k acc o r env m hw h => by simp only [runDrawn, hw]; exact h) (fun _ _ _ _ _ _ h => h) l k acc acc' env m ha h
  simpa using this
theorem w_noisy {K0 : Nat} {R : List Nat} {E : Nat → List Nat} {L : List Nat} {Q : Ex → Env → Mem → Prop} {id : Nat} {l : List Oper} (h : runE P l.toArray (fun _ => Q .nrm) 0 [] l env m) : W P K0 R (.region id l.toArray true) E L env m Q :=
  .inl (runE_drawn l 0 [] [] env m (by simp) h)
theorem accB_pure (o : Oper) (n : Nat) : accB all acc o ⟨[], [], false⟩ n = true := by
  unfold accB
  rw [Bool.and_eq_true]
  refine ⟨rfl, ?_⟩
  rw [List.all_eq_true]
  intro x _
  simp [indep, disj]
theorem e_nil : runE P all K k acc [] env m = K acc env m := rfl
theorem e_pure {op : Op} {o : Option V} (hp : panicV (evO env) op = none) (h2 : calleeV (evO env) op = none) (h3 : execE P (evO env) m op = o.map (Res.val · m)) (h4 : ∀ v, infoE (evO env) m op v = some ⟨[], [], false⟩) :
    runE P all K k acc (⟨d, op, ty, pos, af, none⟩ :: r) env m = bindO o fun v => runE P all K (k + 1) acc r (put env d v) m := by
  simp only [runE, wantD, h2, h3, hp]
  cases o with
  | none => simp [bindO]
  | some v => simp [h4, bindO, accB_pure, isPure]
theorem e_move {x : Operand} : runE P all K k acc (⟨d, .move x, ty, pos, af, none⟩ :: r) env m = runE P all K (k + 1) acc r (put env d (evO env x)) m := e_pure (o := some _) rfl rfl rfl fun _ => rfl
theorem e_assign {x : Operand} : runE P all K k acc (⟨d, .assign x, ty, pos, af, none⟩ :: r) env m = runE P all K (k + 1) acc r (put env d (evO env x)) m := e_pure (o := some _) rfl rfl rfl fun _ => rfl
theorem e_pick {c x y : Operand} : runE P all K k acc (⟨d, .pick c x y, ty, pos, af, none⟩ :: r) env m = boolK (evO env c) fun t => runE P all K (k + 1) acc r (put env d (pickV t (evO env x) (evO env y))) m := by
  simp only [runE, wantD, calleeV, execE, execD, panicV]
  cases evO env c <;> simp [boolK, infoE, infoD, calleeV, accB_pure, isPure]
theorem e_build {t : TypeId} {ps : List (Nat × Operand)} : runE P all K k acc (⟨d, .build t ps.toArray, ty, pos, af, none⟩ :: r) env m = bindO (buildV P t (ps.map fun p => (p.1, evO env p.2))) fun v => runE P all K (k + 1) acc r (put env d v) m := e_pure rfl rfl rfl fun _ => rfl
theorem e_binOp {b : BinOp} {t u : TypeId} {x y : Operand} : runE P all K k acc (⟨d, .binOp b t x y u, ty, pos, af, none⟩ :: r) env m = bindO (binV P b t (evO env x) (evO env y)) fun v => runE P all K (k + 1) acc r (put env d v) m := e_pure rfl rfl rfl fun _ => rfl
theorem e_unOp {b : UnOp} {t : TypeId} {x : Operand} : runE P all K k acc (⟨d, .unOp b t x, ty, pos, af, none⟩ :: r) env m = bindO (unV b (evO env x)) fun v => runE P all K (k + 1) acc r (put env d v) m := e_pure rfl rfl rfl fun _ => rfl
theorem e_convert {s t : TypeId} {x : Operand} : runE P all K k acc (⟨d, .convert s t x, ty, pos, af, none⟩ :: r) env m = bindO (convV P s t (evO env x)) fun v => runE P all K (k + 1) acc r (put env d v) m := by
  simp only [runE, wantD, calleeV, execE, panicV]
  cases h : convV P s t (evO env x) with
  | none => simp [bindO]
  | some v =>
    obtain ⟨h1, h2⟩ := convV_M (m := m) h
    simp only [Option.map_some, infoE, infoD, calleeV, bindO, h2, accB_pure, isPure, List.isEmpty_nil, Bool.not_false, Bool.and_self, cond_true, true_and]
theorem e_slice {t : TypeId} {x : Operand} {lo hi : Option Operand} : runE P all K k acc (⟨d, .slice t x lo hi none, ty, pos, af, none⟩ :: r) env m = bindO (sliceV P t (evO env x) (lo.map (evO env)) (hi.map (evO env))) fun v => runE P all K (k + 1) acc r (put env d v) m := e_pure rfl rfl rfl fun _ => rfl
theorem e_fieldAddr {t : TypeId} {x : Operand} {f : Nat} : runE P all K k acc (⟨d, .fieldAddr t x f, ty, pos, af, none⟩ :: r) env m = bindO (faddrV P t f (evO env x)) fun v => runE P all K (k + 1) acc r (put env d v) m := e_pure rfl rfl rfl fun _ => rfl
theorem e_field {t : TypeId} {x : Operand} {f : Nat} : runE P all K k acc (⟨d, .field t x f, ty, pos, af, none⟩ :: r) env m = bindO (fieldV P t f (evO env x)) fun v => runE P all K (k + 1) acc r (put env d v) m := e_pure rfl rfl rfl fun _ => rfl
theorem e_indexAddr {t : TypeId} {x y : Operand} : runE P all K k acc (⟨d, .indexAddr t x y, ty, pos, af, none⟩ :: r) env m = bindO (iaddrV P t (evO env x) (evO env y)) fun v => runE P all K (k + 1) acc r (put env d v) m := e_pure rfl rfl rfl fun _ => rfl
theorem e_index {t : TypeId} {x y : Operand} : runE P all K k acc (⟨d, .index t x y, ty, pos, af, none⟩ :: r) env m = bindO (indexV P t (evO env x) (evO env y)) fun v => runE P all K (k + 1) acc r (put env d v) m := e_pure rfl rfl rfl fun _ => rfl
theorem e_extract {x : Operand} {i : Nat} : runE P all K k acc (⟨d, .extract x i, ty, pos, af, none⟩ :: r) env m = bindO (extractV i (evO env x)) fun v => runE P all K (k + 1) acc r (put env d v) m := e_pure rfl rfl rfl fun _ => rfl
/-- The order's own question. -/
def orderP (b : Bool) (p : Prop) : Prop := b = true ∧ p
@[congr] theorem orderP_congr {tk : Prop} {b b' : Bool} {p : Prop} (h : b = b') (htk : tick = tk) : orderP b p = orderP b' p := by rw [h]
@[simp] theorem orderP_true (p : Prop) : orderP true p = p := by simp [orderP]
theorem orderP_of {b : Bool} {p : Prop} (h : b = true) (hp : p) : orderP b p := ⟨h, hp⟩
theorem e_load {t : TypeId} {x : Operand} : runE P all K k acc (⟨d, .load t x, ty, pos, af, none⟩ :: r) env m =
    bindO (loadV P m t (evO env x)) fun v => orderP (accB all acc ⟨d, .load t x, ty, pos, af, none⟩ ⟨nms (evO env x), [], false⟩ m.length) (runE P all K (k + 1) (bif isPure ⟨nms (evO env x), [], false⟩ then acc else (k, ⟨nms (evO env x), [], false⟩, m.length) :: acc) r (put env d v) m) := by
  simp only [runE, wantD, calleeV, execE, execD, panicV, infoE, infoD, orderP, bindO]
  cases loadV P m t (evO env x) <;> simp
theorem e_store {t : TypeId} {x y : Operand} : runE P all K k acc (⟨none, .store t x y, ty, pos, af, none⟩ :: r) env m =
    bindO (storeV P t m (evO env x) (evO env y)) fun m' => orderP (accB all acc ⟨none, .store t x y, ty, pos, af, none⟩ ⟨[], nms (evO env x), false⟩ m.length) (runE P all K (k + 1) (bif isPure ⟨[], nms (evO env x), false⟩ then acc else (k, ⟨[], nms (evO env x), false⟩, m.length) :: acc) r env m') := by
  simp only [runE, wantD, calleeV, execE, execD, panicV, infoE, infoD, orderP, bindO, put]
  cases storeV P t m (evO env x) (evO env y) <;> simp
theorem e_alloc {t : TypeId} : runE P all K k acc (⟨d, .alloc t, ty, pos, af, none⟩ :: r) env m =
    bindO (allocV P t m) fun p => orderP (accB all acc ⟨d, .alloc t, ty, pos, af, none⟩ ⟨[], [], true⟩ m.length) (runE P all K (k + 1) ((k, ⟨[], [], true⟩, m.length) :: acc) r (put env d p.1) p.2) := by
  simp only [runE, wantD, calleeV, execE, execD, panicV, infoE, infoD, orderP, bindO]
  cases allocV P t m <;> simp [isPure]
theorem e_box {t : TypeId} {x : Operand} : runE P all K k acc (⟨d, .box t x, ty, pos, af, none⟩ :: r) env m =
    bindO (newV t m (evO env x)) fun p => orderP (accB all acc ⟨d, .box t x, ty, pos, af, none⟩ ⟨[], [], true⟩ m.length) (runE P all K (k + 1) ((k, ⟨[], [], true⟩, m.length) :: acc) r (put env d p.1) p.2) := by
  simp only [runE, wantD, calleeV, execE, execD, panicV, infoE, infoD, orderP, bindO]
  cases newV t m (evO env x) <;> simp [isPure]
theorem e_call {f : Operand} {args : List Operand} {ts : Array TypeId} : runE P all K k acc (⟨d, .call { callee := .value f, args := args.toArray, argTypes := ts }, ty, pos, af, none⟩ :: r) env m =
    bindO (calleeK (evO env) f args) fun p => callE P p.1 p.2 m (fun v => runE P all K (k + 1) acc r (put env d v) m) fun v m1 L => orderP (accB all acc ⟨d, .call { callee := .value f, args := args.toArray, argTypes := ts }, ty, pos, af, none⟩ ⟨[], L, true⟩ m.length) (runE P all K (k + 1) ((k, ⟨[], L, true⟩, m.length) :: acc) r (put env d v) m1) := by
  simp only [runE, wantD, calleeV, calleeK, execE, execD, panicV, orderP]
  cases evO env f <;> simp [bindO]
theorem e_buildSlice {t : TypeId} {n : Nat} {ps : List (Nat × Operand)} : runE P all K k acc (⟨d, .buildSlice t n ps.toArray, ty, pos, af, none⟩ :: r) env m =
    bindO (bsliceV P t n (ps.map fun p => (p.1, evO env p.2)) m) fun p => orderP ((nfs (ps.map fun p => evO env p.2) || (ps.map fun p => evO env p.2).all sty) && accB all acc ⟨d, .buildSlice t n ps.toArray, ty, pos, af, none⟩ ⟨[], [], true⟩ m.length) (runE P all K (k + 1) ((k, ⟨[], [], true⟩, m.length) :: acc) r (put env d p.1) p.2) := by
  show _ = bindO _ fun p => orderP (stys (ps.map fun p => evO env p.2) && _) _
  simp only [runE, wantD, calleeV, execE, execD, panicV, infoE, infoD, orderP, bindO]
  cases bsliceV P t n (ps.map fun p => (p.1, evO env p.2)) m with
  | none => simp
  | some p => cases stys (ps.map fun p => evO env p.2) <;> simp [isPure]
theorem e_append {x y : Operand} {t u : TypeId} : runE P all K k acc (⟨d, .call { callee := .builtin .append, args := #[x, y], argTypes := #[t, u] }, ty, pos, af, none⟩ :: r) env m =
    bindO (appendA P t u (evO env x) (evO env y) m) fun p => orderP (accB all acc ⟨d, .call { callee := .builtin .append, args := #[x, y], argTypes := #[t, u] }, ty, pos, af, none⟩ ⟨nms (evO env y), nms (evO env x), true⟩ m.length) (runE P all K (k + 1) ((k, ⟨nms (evO env y), nms (evO env x), true⟩, m.length) :: acc) r (put env d p.1) p.2) := by
  simp only [runE, wantD, calleeV, execE, execD, panicV, infoE, infoD, orderP, bindO]
  cases appendA P t u (evO env x) (evO env y) m <;> simp [isPure]
theorem e_nilCheck {x : Operand} : runE P all K k acc (⟨d, .nilCheck x, ty, pos, af, none⟩ :: r) env m = bindO (bif nonnil (evO env x) then some () else none) fun _ => runE P all K (k + 1) acc r (put env d (evO env x)) m := by
  simp only [runE, wantD, calleeV, execE, execD, panicV]
  cases nonnil (evO env x) <;> simp [bindO, infoE, infoD, calleeV, accB_pure, isPure]
theorem e_lookup {x y : Operand} {t : TypeId} {ok : Bool} : runE P all K k acc (⟨d, .lookup t x y ok, ty, pos, af, none⟩ :: r) env m =
    bindO (lookupV P t m (evO env x) (evO env y) ok) fun v => orderP (accB all acc ⟨d, .lookup t x y ok, ty, pos, af, none⟩ ⟨mnm (evO env x), [], false⟩ m.length) (runE P all K (k + 1) (bif isPure ⟨mnm (evO env x), [], false⟩ then acc else (k, ⟨mnm (evO env x), [], false⟩, m.length) :: acc) r (put env d v) m) := by
  simp only [runE, wantD, calleeV, execE, execD, panicV, infoE, infoD, orderP, bindO]
  cases lookupV P t m (evO env x) (evO env y) ok <;> simp
theorem e_mapUpdate {x y z : Operand} {t : TypeId} : runE P all K k acc (⟨none, .mapUpdate t x y z, ty, pos, af, none⟩ :: r) env m =
    bindO (putV P t m (evO env x) (evO env y) (evO env z)) fun m' => orderP (accB all acc ⟨none, .mapUpdate t x y z, ty, pos, af, none⟩ ⟨[], nms (evO env x), false⟩ m.length) (runE P all K (k + 1) (bif isPure ⟨[], nms (evO env x), false⟩ then acc else (k, ⟨[], nms (evO env x), false⟩, m.length) :: acc) r env m') := by
  simp only [runE, wantD, calleeV, execE, execD, panicV, infoE, infoD, orderP, bindO, put]
  cases putV P t m (evO env x) (evO env y) (evO env z) <;> simp
theorem e_delete {x y : Operand} {t u : TypeId} : runE P all K k acc (⟨none, .call { callee := .builtin .delete, args := #[x, y], argTypes := #[t, u] }, ty, pos, af, none⟩ :: r) env m =
    bindO (delV P t m (evO env x) (evO env y)) fun m' => orderP (accB all acc ⟨none, .call { callee := .builtin .delete, args := #[x, y], argTypes := #[t, u] }, ty, pos, af, none⟩ ⟨[], nms (evO env x), false⟩ m.length) (runE P all K (k + 1) (bif isPure ⟨[], nms (evO env x), false⟩ then acc else (k, ⟨[], nms (evO env x), false⟩, m.length) :: acc) r env m') := by
  simp only [runE, wantD, calleeV, execE, execD, panicV, infoE, infoD, orderP, bindO, put]
  cases delV P t m (evO env x) (evO env y) <;> simp
theorem e_len {x : Operand} {t : TypeId} : runE P all K k acc (⟨d, .call { callee := .builtin .len, args := #[x], argTypes := #[t] }, ty, pos, af, none⟩ :: r) env m =
    bindO (lenV P m t (evO env x)) fun v => orderP (accB all acc ⟨d, .call { callee := .builtin .len, args := #[x], argTypes := #[t] }, ty, pos, af, none⟩ ⟨mnm (evO env x), [], false⟩ m.length) (runE P all K (k + 1) (bif isPure ⟨mnm (evO env x), [], false⟩ then acc else (k, ⟨mnm (evO env x), [], false⟩, m.length) :: acc) r (put env d v) m) := by
  simp only [runE, wantD, calleeV, execE, execD, panicV, infoE, infoD, orderP, bindO]
  cases lenV P m t (evO env x) <;> simp
end
def cl (k : IntKind) (n : Nat) (f : Nat → Int) : List V := (List.range n).map fun i => V.int k (f i)
def ub (f : Nat → Int) (i : Nat) (v : Int) : Nat → Int := fun j => if j = i then v else f j
section
variable {k : IntKind} {n : Nat} {f : Nat → Int}
@[simp] theorem cl_length : (cl k n f).length = n := by simp [cl]
theorem cl_get {i : Nat} (h : i < n) : (cl k n f)[i]? = some (.int k (f i)) := by simp [cl, h]
theorem cl_part {a s : Nat} (h : a + s ≤ n) : ((cl k n f).drop a).take s = cl k s fun i => f (a + i) := by
  apply List.ext_getElem?
  intro j
  by_cases hj : j < s
  · rw [List.getElem?_take_of_lt hj, List.getElem?_drop, cl_get (by omega), cl_get hj]
  · rw [List.getElem?_eq_none (by simp; omega), List.getElem?_eq_none (by simp; omega)]
theorem nfs_cl : nfs (cl k n f) = true := by
  unfold cl
  induction List.range n with
  | nil => rfl
  | cons x r ih => simp [nfs, nf, ih]
theorem lits_eq (k : IntKind) (f g : Nat → Int) (n : Nat) : litsEq ((List.range n).map fun i => Lit.int k (f i)) ((List.range n).map fun i => Lit.int k (g i)) = decide (∀ i, i < n → f i = g i) := by
  rw [Bool.eq_iff_iff, litsEq_iff, decide_eq_true_iff]
  constructor
  · intro h i hi
    have : ((List.range n).map fun i => Lit.int k (f i))[i]? = ((List.range n).map fun i => Lit.int k (g i))[i]? := by rw [h]
    simpa [hi] using this
  · intro h
    apply List.map_congr_left
    intro i hi
    rw [h i (by simpa using hi)]
end
end Go.Proofs.Ytjjenpdjmcmgbaa.Ab
namespace Go.Proofs.Ytjjenpdjmcmgbaa.Ab
open Go
set_option linter.unusedSimpArgs false
set_option linter.unusedVariables false
/-- A call that panics, by its contract. -/
def callP (P : Program) (f : FuncId) (vs : List V) (m : Mem) (Kp : V → Mem → Prop) : Prop :=
  okCall (rootsV m vs) m vs = true ∧ enterable P f = true ∧
      ∃ v1 m1, Snd P f (rens (idx (rootsV m vs)) vs) (view (rootsV m vs) m) (fun r => r = .pan v1 m1) ∧ okRes (rootsV m vs) v1 m1 = true ∧ Kp (backV (rootsV m vs) m v1 m1).1 (backV (rootsV m vs) m v1 m1).2
/-- Here a call panics: k is its place, l what stands behind it. -/
def panHere (P : Program) (all : Array Oper) (Kp : V → Mem → Prop) (k : Nat) (l : List Oper) (acc : List (Nat × Info × Nat)) (env : Env) (m : Mem) : Prop := match l with
  | [] => False
  | o :: r => o.guard = none ∧ acc.all (fun x => waits all o x.1 || quiet x.2.1) = true ∧ runU P all acc (k + 1) [k] r env m ∧ match calleeV (evO env) o.op with
    | some (f, vs) => callP P f vs m Kp
    | none => False
section
variable {P : Program} {all : Array Oper} {r : List Oper} {env : Env} {m : Mem} {d : Option Nat} {ty : TypeId} {pos : String} {af : Array Edge} {k : Nat} {acc : List (Nat × Info × Nat)}
@[congr] theorem callP_congr {tk : Prop} {f : FuncId} {vs vs' : List V} {m' : Mem} {Kp : V → Mem → Prop} (h : vs = vs') (hm : m = m') (htk : tick = tk) : callP P f vs m Kp = callP P f vs' m' Kp := by rw [h, hm]
@[congr] theorem panHere_congr {tk : Prop} {Kp : V → Mem → Prop} {l : List Oper} {acc' : List (Nat × Info × Nat)} {env' : Env} {m' : Mem} (h1 : env = env') (h2 : m = m') (htk : tick = tk) : panHere P all Kp k l acc env m = panHere P all Kp k l acc env' m' := by rw [h1, h2]
/-- What a panic throws. -/
def panK (v : V) (K : V → Prop) : Prop := match v with
  | .ifc t u => K (.ifc t u)
  | _ => False
@[simp] theorem panK_ifc {t : Nat} {v : V} {K : V → Prop} : panK (.ifc t v) K = K (.ifc t v) := rfl
@[congr] theorem panK_congr {tk : Prop} {v v' : V} {K : V → Prop} (h : v = v') (htk : tick = tk) : panK v K = panK v' K := by rw [h]
theorem x_panic {x : Operand} {K : Env → Mem → Prop} {Kp : V → Mem → Prop} : runOps P all (⟨d, .panic x, ty, pos, af, none⟩ :: r) env m K Kp = panK (evO env x) fun v => Kp v m := by
  simp only [runOps, wantD, panicV]
  cases evO env x <;> simp [panK, calleeV, execD]
end
end Go.Proofs.Ytjjenpdjmcmgbaa.Ab
namespace Go.Proofs.Ytjjenpdjmcmgbaa.Ab
open Go
set_option linter.unusedSimpArgs false
set_option linter.unusedVariables false
theorem evO_tmp (e : Env) (t : Nat) : evO e (.tmp t) = e t := rfl
theorem evO_int (e : Env) (k : IntKind) (n : Int) : evO e (.const (.int k n)) = .int k n := rfl
theorem evO_bool (e : Env) (b : Bool) : evO e (.const (.bool b)) = .bool b := rfl
theorem evO_str (e : Env) (b : ByteArray) : evO e (.const (.string b)) = .str b := rfl
theorem evO_func (e : Env) (f : FuncId) : evO e (.func f) = .fn f [] [] := rfl
theorem put_some (e : Env) (t : Nat) (v : V) : put e (some t) v = upd e t v := rfl
theorem put_none (e : Env) (v : V) : put e none v = e := rfl
theorem mkEnv_nil (t : Nat) : mkEnv [] t = .unk := rfl
theorem mkEnv_cons (k : Nat) (v : V) (r : List (Nat × V)) (t : Nat) : mkEnv ((k, v) :: r) t = if k = t then v else mkEnv r t := upd_at _ _ _ _
theorem endQ_ret {P : Program} {fn : Func} {Q : CR → Prop} {env : Env} {m : Mem} : endQ P fn Q .ret env m = bindO (resV P fn env m) fun v => Q (.ret v m) := by
  simp only [endQ, bindO]
  cases resV P fn env m <;> simp
theorem endQ_nrm {P : Program} {fn : Func} {Q : CR → Prop} {env : Env} {m : Mem} : endQ P fn Q .nrm env m = bindO (resV P fn env m) fun v => Q (.ret v m) := by
  simp only [endQ, bindO]
  cases resV P fn env m <;> simp
theorem argEnv_at (vs : List V) (t : Nat) : argEnv vs t = vs.getD t .unk := rfl
theorem resV_tmp {P : Program} {fn : Func} {t : Nat} (h : fn.results.toList = [.tmp t]) (env : Env) (m : Mem) : resV P fn env m = some (env t) := by
  unfold resV; rw [h]; rfl
theorem resV_cell {P : Program} {fn : Func} {a t : Nat} (h : fn.results.toList = [.cell a t]) (env : Env) (m : Mem) : resV P fn env m = loadV P m t (env a) := by
  unfold resV; rw [h]
  simp only [List.mapM_cons, List.mapM_nil, resOne]
  cases loadV P m t (env a) <;> rfl
theorem resV_cell_tmp {P : Program} {fn : Func} {a t b : Nat} (h : fn.results.toList = [.cell a t, .tmp b]) (env : Env) (m : Mem) : resV P fn env m = (loadV P m t (env a)).bind fun v => some (.tup [v, env b]) := by
  unfold resV; rw [h]
  simp only [List.mapM_cons, List.mapM_nil, resOne]
  cases loadV P m t (env a) <;> rfl
theorem resV_tmp_tmp {P : Program} {fn : Func} {a b : Nat} (h : fn.results.toList = [.tmp a, .tmp b]) (env : Env) (m : Mem) : resV P fn env m = some (.tup [env a, env b]) := by
  unfold resV; rw [h]; rfl
theorem ans_ret {v x : V} {m : Mem} (h : v = x) : ∃ m1, CR.ret v m = CR.ret x m1 := ⟨m, by rw [h]⟩
section
variable {P : Program} {m : Mem} {t : TypeId} {K : V → Mem → Prop} {Kp : V → Mem → Prop}
def wantK (want : Bool) : V → Option Bool
  | .bool b => some (b == want)
  | .tup [] => some false
  | _ => none
theorem wantK_t (b : Bool) : wantK true (.bool b) = some b := by cases b <;> rfl
theorem wantK_f (b : Bool) : wantK false (.bool b) = some (!b) := by cases b <;> rfl
theorem wantK_n (w : Bool) : wantK w (.tup []) = some false := rfl
theorem wantD_at {all : Array Oper} {env : Env} {d : Option Nat} {op : Op} {ty : TypeId} {pos : String} {af : Array Edge} {j : Nat} {want : Bool} :
    wantD all env ⟨d, op, ty, pos, af, some (j, want)⟩ = ((all[j]?).bind fun o => o.dst).bind fun t => wantK want (env t) := by
  simp only [wantD]
  cases (all[j]?).bind fun o => o.dst with
  | none => rfl
  | some t =>
    simp only [Option.bind_some]
    unfold wantK
    rfl
theorem iaddrA_nat {n s k off j : Nat} {kk : IntKind} (h : j < n) : iaddrA n s (.ptr k off) (.int kk (j : Int)) = some (.ptr k (off + j * s)) := by
  unfold iaddrA
  simp only
  rw [if_pos ⟨by omega, by omega⟩]
  simp
theorem indexA_nat {n s : Nat} {l : List V} {agg : Bool} {j : Nat} {kk : IntKind} (h : j < n) : indexA n agg s (.agg l) (.int kk (j : Int)) = partK agg s l (j * s) := by
  unfold indexA
  simp only
  rw [if_pos ⟨by omega, by omega⟩]
  simp
theorem partK_one {s off : Nat} {l : List V} : partK false s l off = l[off]? := rfl
theorem partK_cl {s n off : Nat} {k : IntKind} {f : Nat → Int} (h : off + s ≤ n) : partK true s (cl k n f) off = some (.agg (cl k s fun i => f (off + i))) := by
  unfold partK
  simp only [cond_true, cl_length]
  rw [if_pos h, cl_part h]
theorem partK_all {s n : Nat} {k : IntKind} {f : Nat → Int} (h : s = n) : partK true s (cl k n f) 0 = some (.agg (cl k n f)) := by
  subst h
  rw [partK_cl (by omega)]
  simp
theorem loadK_ptr {agg : Bool} {s n off : Nat} : loadK agg s m (.ptr n off) = (m[n]?).bind fun b => match b with | .var _ l => partK agg s l off | _ => none := by
  simp only [loadK, cellsAt]
  cases m[n]? with
  | none => rfl
  | some b => cases b <;> rfl
theorem loadK_ip {agg : Bool} {s : Nat} {l : List V} : loadK agg s m (.ip l) = partK agg s l 0 := rfl
theorem partK_row {s : Nat} {l : List V} (h : l.length = s) : partK true s l 0 = some (.agg l) := by
  subst h
  simp [partK]
theorem iaddrS_isl {s j : Nat} {kk : IntKind} {es : List (List V)} {e : List V} (h : es[j]? = some e) : iaddrS s (.isl s es) (.int kk (j : Int)) = some (.ip e) := by
  have hl : j < es.length := (List.getElem?_eq_some_iff.1 h).1
  unfold iaddrS
  simp only
  rw [if_pos ⟨by omega, by omega⟩]
  simp [h]
theorem iaddrS_sl {s n off len j : Nat} {kk : IntKind} (h : j < len) : iaddrS s (.sl s n off len) (.int kk (j : Int)) = some (.ep s n (off + j) 0) := by
  unfold iaddrS
  simp only
  rw [if_pos ⟨by omega, by omega⟩]
  simp
theorem storeK_one {n off : Nat} {v : V} (h : oneV v = true) : storeK 1 m (.ptr n off) v = (m[n]?).bind fun b => match b with
    | .var ty l => if off < l.length then some (m.set n (.var ty (l.set off v))) else none
    | _ => none := by
  have hc : cellsOfV v = [v] := by cases v <;> first | rfl | (simp [oneV] at h)
  have hb : cellsB v = true := by cases v <;> first | rfl | (simp [oneV] at h)
  unfold storeK
  rw [hc, hb]
  simp only [List.length_singleton, and_self, if_true]
  cases m[n]? with
  | none => rfl
  | some b =>
    cases b with
    | var ty l =>
      simp only [Option.bind_some]
      by_cases h1 : off < l.length
      · rw [if_pos (by omega), if_pos h1, splice_one h1]
      · rw [if_neg (by omega), if_neg h1]
    | _ => rfl
theorem storeK_int {n off : Nat} {k : IntKind} {a : Int} : storeK 1 m (.ptr n off) (.int k a) = (m[n]?).bind fun b => match b with
    | .var ty l => if off < l.length then some (m.set n (.var ty (l.set off (.int k a)))) else none
    | _ => none := storeK_one rfl
theorem storeK_agg {s n off : Nat} {cs : List V} (h : cs.length = s) : storeK s m (.ptr n off) (.agg cs) = (m[n]?).bind fun b => match b with
    | .var ty l => if off + s ≤ l.length then some (m.set n (.var ty (splice l off cs))) else none
    | _ => none := by
  subst h
  unfold storeK
  simp only [cellsOfV, cellsB, and_self, if_true]
  cases m[n]? with
  | none => rfl
  | some b => cases b <;> rfl
theorem b_bool_eql {a b : Bool} (h : isBoolT P t = true) : binV P .eql t (.bool a) (.bool b) = some (.bool (a == b)) := by
  simp [binV, eqV, h]
theorem b_bool_neq {a b : Bool} (h : isBoolT P t = true) : binV P .neq t (.bool a) (.bool b) = some (.bool (!(a == b))) := by
  simp [binV, eqV, h]
theorem b_agg_eql (a b : List V) : binV P .eql t (.agg a) (.agg b) = (eqV P t (.agg a) (.agg b)).map V.bool := by
  simp [binV]
theorem b_agg_neq (a b : List V) : binV P .neq t (.agg a) (.agg b) = (eqV P t (.agg a) (.agg b)).map fun b => V.bool (!b) := by
  simp [binV]
def eqN (n : Nat) (f g : Nat → Int) : Bool := decide (∀ i, i < n → f i = g i)
theorem eqV_cl {k : IntKind} {n : Nat} {f g : Nat → Int} (h0 : (P.keyTypeAt 8 t && (!P.eqGuardType P.depth t && isAggT P t)) = true) (h1 : litsV P t (cl k n f) = some ((List.range n).map fun i => Lit.int k (f i))) (h2 : litsV P t (cl k n g) = some ((List.range n).map fun i => Lit.int k (g i))) :
    eqV P t (.agg (cl k n f)) (.agg (cl k n g)) = some (eqN n f g) := by
  simp only [eqV, eqN, h0, h1, h2, cond_true, lits_eq]
end
end Go.Proofs.Ytjjenpdjmcmgbaa.Ab
namespace Go.Proofs.Ytjjenpdjmcmgbaa.Ab
open Go
set_option linter.unusedSimpArgs false
set_option linter.unusedVariables false
inductive Sh where
  | tb | ti (k : IntKind) | ts
def fit1 : Sh → Value → Lit → Prop
  | .tb, .bool x, l => l = .bool x
  | .ti k, .int k' n, l => k' = k ∧ (Lit.int k n).wf = true ∧ l = .int k n
  | .ts, .string x, l => x.size ≤ maxLen ∧ l = .string x.data.toList
  | _, _, _ => False
def fitL : List Sh → List Value → List Lit → Prop
  | [], cs, ls => cs = [] ∧ ls = []
  | s :: r, c :: cs, l :: ls => fit1 s c l ∧ fitL r cs ls
  | _, _, _ => False
theorem fitL_len : ∀ {ss : List Sh} {cs : List Value} {ls : List Lit}, fitL ss cs ls → cs.length = ss.length ∧ ls.length = ss.length
  | [], _, _, h => by obtain ⟨rfl, rfl⟩ := h; exact ⟨rfl, rfl⟩
  | _ :: r, _ :: cs, _ :: ls, h => by
    have := fitL_len (ss := r) h.2
    simp [this.1, this.2]
  | _ :: _, [], _, h => h.elim
  | _ :: _, _ :: _, [], h => h.elim
theorem fitL_app : ∀ {ss rr : List Sh} {cs : List Value} {ls : List Lit}, fitL (ss ++ rr) cs ls → fitL ss (cs.take ss.length) (ls.take ss.length) ∧ fitL rr (cs.drop ss.length) (ls.drop ss.length)
  | [], _, _, _, h => ⟨⟨by simp, by simp⟩, h⟩
  | _ :: r, _, _ :: cs, _ :: ls, h => by
    have := fitL_app (ss := r) h.2
    exact ⟨⟨h.1, this.1⟩, this.2⟩
  | _ :: _, _, [], _, h => h.elim
  | _ :: _, _, _ :: _, [], h => h.elim
def inRow {β : Type} (off wd : β → Nat) : Nat → List β → Bool
  | _, [] => true
  | o, b :: r => Nat.beq (off b) o && inRow off wd (o + wd b) r
theorem pieces {β : Type} (K : β → List Value → Option (List Lit)) (off wd : β → Nat) (sh : β → List Sh) (all : List Value) : ∀ (bs : List β) (o : Nat) (ls : List Lit), inRow off wd o bs = true → (∀ b ∈ bs, wd b = (sh b).length) →
    (∀ b ∈ bs, ∀ cs ls, fitL (sh b) cs ls → K b cs = some ls) → fitL (bs.map sh).flatten (all.drop o) ls → (bs.mapM fun b => K b ((all.drop (off b)).take (wd b))).map List.flatten = some ls
  | [], _, ls, _, _, _, h => by
    obtain ⟨_, rfl⟩ := h
    rfl
  | b :: r, o, ls, h1, h2, h3, h => by
    simp only [inRow, Bool.and_eq_true] at h1
    have e := Nat.eq_of_beq_eq_true h1.1
    have hw := h2 b (by simp)
    simp only [List.map_cons, List.flatten_cons] at h
    obtain ⟨k1, k2⟩ := fitL_app h
    have ih := pieces K off wd sh all r (o + wd b) (ls.drop (sh b).length) h1.2 (fun b hb => h2 b (by simp [hb])) (fun b hb => h3 b (by simp [hb])) (by rw [hw, ← List.drop_drop]; exact k2)
    rw [List.mapM_cons, e, hw, h3 b (by simp) _ _ k1]
    cases hm : r.mapM fun b => K b ((all.drop (off b)).take (wd b)) with
    | none => rw [hm] at ih; cases ih
    | some l =>
      rw [hm] at ih
      simp only [Option.map_some, Option.some.injEq] at ih
      have e2 : ((some (ls.take (sh b).length)).bind fun v => (some l).bind fun vs => some (v :: vs)).map List.flatten = some ls := by
        simp [ih]
      exact e2
def fieldOk (P : Program) (g : TypeId → Option (List Sh)) (f : Field) : Bool := (f.name != "_") && (match g f.type with | some ss => Nat.beq (P.cellsOf f.type) ss.length | none => false)
theorem fieldOk_iff {P : Program} {g : TypeId → Option (List Sh)} {f : Field} (h : fieldOk P g f = true) : (f.name != "_") = true ∧ ∃ ss, g f.type = some ss ∧ P.cellsOf f.type = ss.length := by
  unfold fieldOk at h
  rw [Bool.and_eq_true] at h
  refine ⟨h.1, ?_⟩
  have := h.2
  cases hs : g f.type with
  | none => rw [hs] at this; cases this
  | some ss => rw [hs] at this; exact ⟨ss, rfl, Nat.eq_of_beq_eq_true this⟩
def shp (P : Program) : Nat → TypeId → Option (List Sh)
  | 0, _ => none
  | d + 1, t => match P.underlying t with
    | some .bool => some [.tb]
    | some (.int q) => some [.ti q]
    | some .string => some [.ts]
    | some (.array n e) => match shp P d e with
      | some ss => bif Nat.beq (P.cellsOf e) ss.length && (Nat.beq (P.cellsOf t) ((List.range n).map fun _ => ss).flatten.length && inRow (fun i => i * P.cellsOf e) (fun _ => P.cellsOf e) 0 (List.range n)) then some ((List.range n).map fun _ => ss).flatten else none
      | none => none
    | some (.struct fs) => bif fs.toList.all (fieldOk P (shp P d)) && (Nat.beq (P.cellsOf t) (fs.toList.map fun f => (shp P d f.type).getD []).flatten.length && inRow (fun f => f.offset) (fun f => P.cellsOf f.type) 0 fs.toList)
      then some (fs.toList.map fun f => (shp P d f.type).getD []).flatten else none
    | _ => none
theorem keyLits_shp (P : Program) : ∀ (d : Nat) (t : TypeId) (ss : List Sh) (cs : List Value) (ls : List Lit), shp P d t = some ss → fitL ss cs ls → P.keyLits d t cs = some ls
  | 0, _, _, _, _, h, _ => by simp [shp] at h
  | d + 1, t, ss, cs, ls, h, hf => by
    have one : ∀ {s : Sh}, fitL [s] cs ls → ∃ c l, cs = [c] ∧ ls = [l] ∧ fit1 s c l := by
      intro s h
      match cs, ls, h with
      | [c], [l], h => exact ⟨c, l, rfl, rfl, h.1⟩
      | [], _, h => exact h.elim
      | _ :: _, [], h => exact h.elim
      | _ :: _ :: _, _ :: _, h => exact absurd h.2.1 (by simp)
      | [_], _ :: _ :: _, h => exact absurd h.2.2 (by simp)
    unfold shp at h
    unfold Program.keyLits
    cases hu : P.underlying t with
    | none => rw [hu] at h; cases h
    | some u =>
      rw [hu] at h
      cases u with
      | bool =>
        cases h
        obtain ⟨c, l, rfl, rfl, hs⟩ := one hf
        cases c <;> simp only [fit1] at hs <;> first | exact hs.elim | (subst hs; rfl)
      | int q =>
        cases h
        obtain ⟨c, l, rfl, rfl, hs⟩ := one hf
        cases c <;> simp only [fit1] at hs <;> first | exact hs.elim | (obtain ⟨rfl, h2, rfl⟩ := hs; simp [h2])
      | string =>
        cases h
        obtain ⟨c, l, rfl, rfl, hs⟩ := one hf
        cases c <;> simp only [fit1] at hs <;> first | exact hs.elim | (obtain ⟨h2, rfl⟩ := hs; simp [h2])
      | array n e =>
        simp only at h ⊢
        cases hs : shp P d e with
        | none => rw [hs] at h; cases h
        | some s1 =>
          rw [hs] at h
          simp only at h
          cases hc : Nat.beq (P.cellsOf e) s1.length && (Nat.beq (P.cellsOf t) ((List.range n).map fun _ => s1).flatten.length && inRow (fun i => i * P.cellsOf e) (fun _ => P.cellsOf e) 0 (List.range n)) with
          | false => rw [hc] at h; cases h
          | true =>
            rw [hc] at h
            simp only [cond_true, Option.some.injEq] at h
            subst h
            simp only [Bool.and_eq_true] at hc
            have e1 := Nat.eq_of_beq_eq_true hc.1
            have e2 := Nat.eq_of_beq_eq_true hc.2.1
            rw [if_pos (by rw [(fitL_len hf).1, e2])]
            exact pieces (fun _ => P.keyLits d e) (fun i => i * P.cellsOf e) (fun _ => P.cellsOf e) (fun _ => s1) cs (List.range n) 0 ls hc.2.2 (fun _ _ => e1) (fun _ _ cs ls hf => keyLits_shp P d e s1 cs ls hs hf) hf
      | struct fs =>
        simp only at h ⊢
        cases hc : fs.toList.all (fieldOk P (shp P d)) && (Nat.beq (P.cellsOf t) (fs.toList.map fun f => (shp P d f.type).getD []).flatten.length && inRow (fun f => f.offset) (fun f => P.cellsOf f.type) 0 fs.toList) with
        | false => rw [hc] at h; cases h
        | true =>
          rw [hc] at h
          simp only [cond_true, Option.some.injEq] at h
          subst h
          simp only [Bool.and_eq_true, List.all_eq_true] at hc
          have e2 := Nat.eq_of_beq_eq_true hc.2.1
          rw [if_pos ⟨by rw [(fitL_len hf).1, e2], by
            rw [Array.all_eq_true_iff_forall_mem]
            intro f hf
            exact (fieldOk_iff (hc.1 f (by simpa using hf))).1⟩]
          refine pieces (fun f => P.keyLits d f.type) (fun f => f.offset) (fun f => P.cellsOf f.type) (fun f => (shp P d f.type).getD []) cs fs.toList 0 ls hc.2.2 (fun f hm => ?_) (fun f hm cs ls hf => ?_) hf
          · obtain ⟨_, s1, h1, h2⟩ := fieldOk_iff (hc.1 f hm)
            rw [h1]; exact h2
          · obtain ⟨_, s1, h1, h2⟩ := fieldOk_iff (hc.1 f hm)
            rw [h1] at hf
            exact keyLits_shp P d f.type s1 cs ls h1 hf
      | _ => cases h
def fitV : List Sh → List V → List Lit → Prop
  | [], vs, ls => vs = [] ∧ ls = []
  | s :: r, v :: vs, l :: ls => (∃ x, toVal v = some x ∧ fit1 s x l) ∧ fitV r vs ls
  | _, _, _ => False
theorem fitV_lits : ∀ {ss : List Sh} {vs : List V} {ls : List Lit}, fitV ss vs ls → ∃ cs, vs.mapM toVal = some cs ∧ fitL ss cs ls
  | [], _, _, h => by obtain ⟨rfl, rfl⟩ := h; exact ⟨[], rfl, rfl, rfl⟩
  | _ :: r, v :: vs, _ :: ls, h => by
    obtain ⟨⟨x, h1, h2⟩, h3⟩ := h
    obtain ⟨cs, k1, k2⟩ := fitV_lits (ss := r) h3
    exact ⟨x :: cs, by rw [List.mapM_cons, h1, k1]; rfl, h2, k2⟩
  | _ :: _, [], _, h => h.elim
  | _ :: _, _ :: _, [], h => h.elim
theorem litsV_fit {P : Program} {t : TypeId} {ss : List Sh} {vs : List V} {ls : List Lit} (h : shp P 9 t = some ss) (hf : fitV ss vs ls) : litsV P t vs = some ls := by
  obtain ⟨cs, h1, h2⟩ := fitV_lits hf
  unfold litsV
  rw [h1]
  exact keyLits_shp P 9 t ss cs ls h h2
theorem fitV_cl {k : IntKind} {f : Nat → Int} {n : Nat} (h : ∀ i, i < n → (Lit.int k (f i)).wf = true) : fitV ((List.range n).map fun _ => Sh.ti k) (cl k n f) ((List.range n).map fun i => Lit.int k (f i)) := by
  unfold cl
  have : ∀ i ∈ List.range n, (Lit.int k (f i)).wf = true := fun i hi => h i (by simpa using hi)
  revert this
  generalize List.range n = l
  intro this
  induction l with
  | nil => exact ⟨rfl, rfl⟩
  | cons x r ih => exact ⟨⟨_, rfl, rfl, this x (by simp), rfl⟩, ih fun i hi => this i (by simp [hi])⟩
def inK (k : IntKind) (n : Nat) (f : Nat → Int) : Prop := ∀ i, i < n → (Lit.int k (f i)).wf = true
theorem eqV_cl2 {P : Program} {t : TypeId} {k : IntKind} {n : Nat} {f g : Nat → Int} (h0 : (P.keyTypeAt 8 t && (!P.eqGuardType P.depth t && isAggT P t)) = true) (h : shp P 9 t = some ((List.range n).map fun _ => Sh.ti k)) (hf : inK k n f) (hg : inK k n g) :
    eqV P t (.agg (cl k n f)) (.agg (cl k n g)) = some (eqN n f g) := eqV_cl h0 (litsV_fit h (fitV_cl hf)) (litsV_fit h (fitV_cl hg))
end Go.Proofs.Ytjjenpdjmcmgbaa.Ab
namespace Go.Proofs.Ytjjenpdjmcmgbaa.Ab
open Go Go.ChangeShapes Go.WideShapes Go.RowKit
set_option linter.unusedSimpArgs false
set_option linter.unusedVariables false
theorem rep0 (w : World) : Rep (fun _ => (0, 0)) (fun b => b < w.heap.size) [] w :=
  ⟨fun n b h => by simp at h, fun n h => by simp [live] at h, fun n _ h => by simp [live] at h, fun _ h => h⟩
theorem ans_calls {P : Program} {f : FuncId} {vs : List V} {v : V} (h : Ans P f vs v) {w : World} {xs : Array Value} (hl : vs.length = xs.size) (hr : Rt 0 (fun _ => (0, 0)) (fun b => b < w.heap.size) w vs xs 0) :
    Calls P f xs w fun e w' => (∃ x N ρ I, e = .returned x ∧ RV N ρ I w' v x) ∧ Below w.heap.size w w' := by
  refine (h _ _ w xs (rep0 w) hl hr).mono ?_
  rintro e w' ⟨r, ⟨m1, rfl⟩, x, ρ', I', rfl, h1, h2, h3⟩
  refine ⟨⟨x, _, ρ', I', rfl, h3⟩, h2.wle.os, h2.wle.tape, h2.wle.output, h2.wle.size, fun k hk => h2.frame k hk ?_⟩
  rintro ⟨n, hn, _⟩
  simp [live] at hn
theorem ans_true {P : Program} {f : FuncId} {vs : List V} (h : Ans P f vs (.bool true)) {w : World} {xs : Array Value} (hl : vs.length = xs.size) (hr : Rt 0 (fun _ => (0, 0)) (fun b => b < w.heap.size) w vs xs 0) :
    Calls P f xs w fun e w' => e = .returned (.bool true) ∧ Below w.heap.size w w' := by
  refine (ans_calls h hl hr).mono ?_
  rintro e w' ⟨⟨x, N, ρ, I, rfl, hx⟩, hb⟩
  simp only [RV] at hx
  subst hx
  exact ⟨rfl, hb⟩
end Go.Proofs.Ytjjenpdjmcmgbaa.Ab
namespace Go.Proofs.Ytjjenpdjmcmgbaa.Ab
open Go
set_option linter.unusedSimpArgs false
set_option linter.unusedVariables false
theorem canon_of {K0 : Nat} {keep : List Nat} {env : Env} {m : Mem} (vs : List V) (L : List Nat) {vs' : List V} {e' : Env} {m' : Mem} (hk : keep.map env = vs) (hL : reach m 2000 (List.range K0 ++ nmss vs) [] = L)
    (hi : inDs (fun k => L.contains k) vs = true) (hc : (closedB L m && prefixB K0 L) = true) (hv : rens (idx L) vs = vs') (he : mkEnv (keep.zip vs') = e') (hm : view L m = m') : canon K0 keep env m = some (e', m') := by
  subst hk hL hv he hm
  unfold canon
  simp only [hi, hc, Bool.and_self, cond_true]
theorem canon_nil {keep : List Nat} {env : Env} (vs : List V) {e' : Env} (hk : keep.map env = vs) (hn : nfs vs = true) (he : mkEnv (keep.zip vs) = e') : canon 0 keep env [] = some (e', []) := by
  refine canon_of vs [] hk ?_ (nfs_inDs _ vs hn) rfl (rens_nf _ vs hn) he rfl
  rw [nfs_nmss vs hn]
  rfl
theorem nfs_cons {v : V} {r : List V} (h : nf v = true) (hr : nfs r = true) : nfs (v :: r) = true := by simp [nfs, h, hr]
end Go.Proofs.Ytjjenpdjmcmgbaa.Ab
