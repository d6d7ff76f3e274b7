/- Regions whose order is open, run by rewriting. No condition. -/
import Derived.Test.YtnhejkfbnjopjaaAbs18
namespace Go.Proofs.Ytnhejkfbnjopjaa.Ab
open Go
set_option linter.unusedSimpArgs false
set_option linter.unusedVariables false

/-- Operations that only read. -/
def quietOp : Op → Bool
  | .move _ | .assign _ | .pick _ _ _ | .build _ _ | .nilCheck _ | .binOp _ _ _ _ _ | .unOp _ _ _ | .convert _ _ _ | .makeFunc _ _ _ | .makeInterface _ _ | .slice _ _ _ _ _
  | .fieldAddr _ _ _ | .field _ _ _ | .indexAddr _ _ _ | .index _ _ _ | .extract _ _ | .load _ _ => true
  | .call { callee := .builtin .len, .. } => true
  | _ => false

def callQ (P : Program) (f : FuncId) (vs : List V) (K : V → Prop) : Prop := nfs vs = true ∧ enterable P f = true ∧ ∃ v, nf v = true ∧ Ans P f vs v ∧ K v
@[congr] theorem callQ_congr {tk : Prop} {P : Program} {f : FuncId} {vs vs' : List V} {K : V → Prop} (h : vs = vs') (htk : tick = tk) : callQ P f vs K = callQ P f vs' K := by rw [h]

def runQ (P : Program) (all : Array Oper) (K : Env → Mem → Prop) : List Oper → Env → Mem → Prop
  | [], env, m => K env m
  | o :: r, env, m => match wantD all env o with
    | none => False
    | some false => runQ P all K r (put env o.dst (.tup [])) m
    | some true => match calleeV (evO env) o.op with
      | some (f, vs) => callQ P f vs fun v => runQ P all K r (put env o.dst v) m
      | none => match execD P (evO env) m o.op with
        | some (.val v _) => quietOp o.op = true ∧ runQ P all K r (put env o.dst v) m
        | _ => False

section
variable {P : Program} {all : Array Oper} {r : List Oper} {env : Env} {m : Mem} {K : Env → Mem → Prop} {d : Option Nat} {ty : TypeId} {pos : String} {af : Array Edge}

@[congr] theorem runQ_congr {tk : Prop} {l : List Oper} {env' : Env} {m' : Mem} (h1 : env = env') (h2 : m = m') (htk : tick = tk) : runQ P all K l env m = runQ P all K l env' m' := by rw [h1, h2]

theorem cellsAt_lt {p : V} {l : List V} {o : Nat} (h : cellsAt m p = some (l, o)) : ∀ n ∈ nms p, n < m.length := by
  have lt : ∀ {k : Nat} {b : B}, m[k]? = some b → k < m.length := fun hm => (List.getElem?_eq_some_iff.1 hm).1
  intro n hn
  cases p with
  | ptr k o' =>
    simp [nms] at hn; subst hn
    simp only [cellsAt] at h
    cases hm : m[n]? with
    | none => rw [hm] at h; cases h
    | some b => exact lt hm
  | ep s k i o' =>
    simp [nms] at hn; subst hn
    simp only [cellsAt] at h
    cases hm : m[n]? with
    | none => rw [hm] at h; cases h
    | some b => exact lt hm
  | _ => first | (simp [nms] at hn; done) | (simp [cellsAt] at h; done)

/-- What only reads has its places, and nothing else. -/
theorem quiet_info {op : Op} {v : V} {m1 : Mem} (hc : calleeV (evO env) op = none) (h : execD P (evO env) m op = some (.val v m1)) (hq : quietOp op = true) :
    m1 = m ∧ ∃ rd, infoD (evO env) m op v = some ⟨rd, [], false⟩ ∧ ∀ n ∈ rd, n < m.length := by
  have pure : ∀ {o : Option V}, execD P (evO env) m op = o.map (Res.val · m) → m1 = m := by
    intro o e
    rw [e] at h
    cases o with
    | none => cases h
    | some u => simp at h; exact h.2.symm
  unfold infoD
  rw [hc]
  cases op with
  | call c =>
    obtain ⟨cal, args, ts⟩ := c
    cases cal with
    | builtin b =>
      cases b <;> first | (simp [quietOp] at hq; done) | skip
      simp only [execD] at h
      split at h
      · rename_i x t hargs hts
        rw [Option.map_eq_some_iff] at h
        obtain ⟨u, h1, h2⟩ := h
        cases h2
        refine ⟨rfl, mnm (evO env x), by simp only [hargs], fun n hn => ?_⟩
        cases hx : evO env x <;> rw [hx] at h1 hn <;> simp [mnm] at hn <;> simp only [lenV] at h1
        · subst hn
          split at h1
          · cases hm : m[n]? with
            | none => rw [hm] at h1; cases h1
            | some b => exact (List.getElem?_eq_some_iff.1 hm).1
          · cases h1
      · cases h
    | _ => simp [quietOp] at hq
  | load t a =>
    simp only [execD] at h
    have h' := h
    rw [Option.map_eq_some_iff] at h
    obtain ⟨u, h1, h2⟩ := h
    cases h2
    refine ⟨rfl, nms (evO env a), rfl, ?_⟩
    unfold loadV at h1
    cases hcl : cellsAt m (evO env a) with
    | none => rw [hcl] at h1; cases h1
    | some q => exact cellsAt_lt hcl
  | move x => exact ⟨pure (o := some _) rfl, [], rfl, by simp⟩
  | assign x => exact ⟨pure (o := some _) rfl, [], rfl, by simp⟩
  | pick c x y =>
    refine ⟨?_, [], rfl, by simp⟩
    simp only [execD] at h
    cases hcv : evO env c <;> rw [hcv] at h <;> first | (cases h; done) | (cases h; rfl)
  | build t ps => exact ⟨pure rfl, [], rfl, by simp⟩
  | nilCheck x =>
    refine ⟨?_, [], rfl, by simp⟩
    simp only [execD] at h
    cases hn : nonnil (evO env x) <;> rw [hn] at h <;> cases h
    rfl
  | binOp b t x y yt => exact ⟨pure rfl, [], rfl, by simp⟩
  | unOp b t x => exact ⟨pure rfl, [], rfl, by simp⟩
  | convert s t x => exact ⟨pure rfl, [], rfl, by simp⟩
  | makeFunc f a b =>
    cases f with
    | func f => exact ⟨pure (o := some _) rfl, [], rfl, by simp⟩
    | _ => simp [execD] at h
  | makeInterface t x =>
    refine ⟨?_, [], rfl, by simp⟩
    simp only [execD] at h
    cases hn : P.concrete t <;> rw [hn] at h <;> cases h
    rfl
  | slice t x lo hi mx =>
    cases mx with
    | none => exact ⟨pure rfl, [], rfl, by simp⟩
    | some _ => simp [execD] at h
  | fieldAddr t x f => exact ⟨pure rfl, [], rfl, by simp⟩
  | field t x f => exact ⟨pure rfl, [], rfl, by simp⟩
  | indexAddr t x y => exact ⟨pure rfl, [], rfl, by simp⟩
  | index t x y => exact ⟨pure rfl, [], rfl, by simp⟩
  | extract x y => exact ⟨pure rfl, [], rfl, by simp⟩
  | _ => simp [quietOp] at hq

theorem runQ_drawn : ∀ (l : List Oper) (k : Nat) (acc : List (Nat × Info × Nat)) (env : Env) (m : Mem), (∀ x ∈ acc, x.2.1.wr = [] ∧ x.2.1.al = false) → runQ P all K l env m → runDrawn P all K k acc l env m
  | [], _, _, _, _, _, h => h
  | o :: r, k, acc, env, m, ha, h => by
    have nowr : ∀ rd : List Nat, acc.all (fun x => waits o x.1 || indep x.2.1 x.2.2 ⟨rd, [], false⟩) = true := by
      intro rd
      rw [List.all_eq_true]
      intro x hx
      obtain ⟨h1, h2⟩ := ha x hx
      simp [indep, disj, h1, h2]
    simp only [runQ] at h
    simp only [runDrawn]
    cases hw : wantD all env o with
    | none => rw [hw] at h; exact h.elim
    | some bw =>
      cases bw with
      | false => rw [hw] at h; exact runQ_drawn r (k + 1) acc _ _ ha h
      | true =>
        rw [hw] at h
        simp only at h ⊢
        split at h
        · rename_i f vs hc
          obtain ⟨h1, h2, v, h3, h4, h5⟩ := h
          have hroots : rootsV m vs = [] := by unfold rootsV; rw [nfs_nmss vs h1]; rfl
          refine ⟨v, m, ⟨[], [], false⟩, stepV_ans hc h4 h2 h1 h3, ⟨?_, ?_, by simp, nowr []⟩, runQ_drawn r (k + 1) _ _ _ (fun x hx => ?_) h5⟩
          · unfold calleeV at hc
            split at hc
            · rename_i hop; rw [hop]; rfl
            · cases hc
          · unfold infoD; rw [hc]; simp [hroots, h3]
          · rcases List.mem_cons.1 hx with rfl | hx
            · exact ⟨rfl, rfl⟩
            · exact ha x hx
        · rename_i hc
          split at h
          · rename_i v m1 hx
            obtain ⟨hq, h⟩ := h
            obtain ⟨rfl, rd, h2, h3⟩ := quiet_info hc hx hq
            refine ⟨v, m1, ⟨rd, [], false⟩, ?_, ⟨?_, h2, by simpa using h3, nowr rd⟩, runQ_drawn r (k + 1) _ _ _ (fun x hx => ?_) h⟩
            · unfold StepV; rw [hc, hx]; exact ⟨rfl, rfl⟩
            · cases hop : o.op <;> first | rfl | (rw [hop] at hq; simp [quietOp] at hq)
            · rcases List.mem_cons.1 hx with rfl | hx
              · exact ⟨rfl, rfl⟩
              · exact ha x hx
          · exact h.elim

theorem w_quiet {K0 : Nat} {R : List Nat} {E : Nat → List Nat} {L : List Nat} {Q : Ex → Env → Mem → Prop} {id : Nat} {l : List Oper} (h : runQ P l.toArray (Q .nrm) l env m) : W P K0 R (.region id l.toArray true) E L env m Q :=
  runQ_drawn l 0 [] env m (by simp) h

theorem q_nil : runQ P all K [] env m = K env m := rfl
theorem q_val {op : Op} {o : Option V} (hq : quietOp op = true) (h2 : calleeV (evO env) op = none) (h3 : execD P (evO env) m op = o.map (Res.val · m)) :
    runQ P all K (⟨d, op, ty, pos, af, none⟩ :: r) env m = bindO o fun v => runQ P all K r (put env d v) m := by
  simp only [runQ, wantD, h2, h3]
  cases o with
  | none => rfl
  | some v => simp [hq, bindO]
theorem q_move {x : Operand} : runQ P all K (⟨d, .move x, ty, pos, af, none⟩ :: r) env m = runQ P all K r (put env d (evO env x)) m := by simp [runQ, wantD, calleeV, execD, quietOp]
theorem q_assign {x : Operand} : runQ P all K (⟨d, .assign x, ty, pos, af, none⟩ :: r) env m = runQ P all K r (put env d (evO env x)) m := by simp [runQ, wantD, calleeV, execD, quietOp]
theorem q_pick {c x y : Operand} : runQ P all K (⟨d, .pick c x y, ty, pos, af, none⟩ :: r) env m = boolK (evO env c) fun t => runQ P all K r (put env d (pickV t (evO env x) (evO env y))) m := by
  simp only [runQ, wantD, calleeV, execD]
  cases evO env c <;> simp [boolK, quietOp]
theorem q_build {t : TypeId} {ps : List (Nat × Operand)} : runQ P all K (⟨d, .build t ps.toArray, ty, pos, af, none⟩ :: r) env m = bindO (buildV P t (ps.map fun p => (p.1, evO env p.2))) fun v => runQ P all K r (put env d v) m := q_val rfl rfl rfl
theorem q_load {t : TypeId} {x : Operand} : runQ P all K (⟨d, .load t x, ty, pos, af, none⟩ :: r) env m = bindO (loadV P m t (evO env x)) fun v => runQ P all K r (put env d v) m := q_val rfl rfl rfl
theorem q_nilCheck {x : Operand} : runQ P all K (⟨d, .nilCheck x, ty, pos, af, none⟩ :: r) env m = bindO (bif nonnil (evO env x) then some () else none) fun _ => runQ P all K r (put env d (evO env x)) m := by
  simp only [runQ, wantD, calleeV, execD]
  cases nonnil (evO env x) <;> simp [bindO, quietOp]
theorem q_binOp {b : BinOp} {t u : TypeId} {x y : Operand} : runQ P all K (⟨d, .binOp b t x y u, ty, pos, af, none⟩ :: r) env m = bindO (binV P b t (evO env x) (evO env y)) fun v => runQ P all K r (put env d v) m := q_val rfl rfl rfl
theorem q_unOp {b : UnOp} {t : TypeId} {x : Operand} : runQ P all K (⟨d, .unOp b t x, ty, pos, af, none⟩ :: r) env m = bindO (unV b (evO env x)) fun v => runQ P all K r (put env d v) m := q_val rfl rfl rfl
theorem q_convert {s t : TypeId} {x : Operand} : runQ P all K (⟨d, .convert s t x, ty, pos, af, none⟩ :: r) env m = bindO (convV P s t (evO env x)) fun v => runQ P all K r (put env d v) m := q_val rfl rfl rfl
theorem q_slice {t : TypeId} {x : Operand} {lo hi : Option Operand} : runQ P all K (⟨d, .slice t x lo hi none, ty, pos, af, none⟩ :: r) env m = bindO (sliceV P t (evO env x) (lo.map (evO env)) (hi.map (evO env))) fun v => runQ P all K r (put env d v) m := q_val rfl rfl rfl
theorem q_fieldAddr {t : TypeId} {x : Operand} {f : Nat} : runQ P all K (⟨d, .fieldAddr t x f, ty, pos, af, none⟩ :: r) env m = bindO (faddrV P t f (evO env x)) fun v => runQ P all K r (put env d v) m := q_val rfl rfl rfl
theorem q_field {t : TypeId} {x : Operand} {f : Nat} : runQ P all K (⟨d, .field t x f, ty, pos, af, none⟩ :: r) env m = bindO (fieldV P t f (evO env x)) fun v => runQ P all K r (put env d v) m := q_val rfl rfl rfl
theorem q_indexAddr {t : TypeId} {x y : Operand} : runQ P all K (⟨d, .indexAddr t x y, ty, pos, af, none⟩ :: r) env m = bindO (iaddrV P t (evO env x) (evO env y)) fun v => runQ P all K r (put env d v) m := q_val rfl rfl rfl
theorem q_index {t : TypeId} {x y : Operand} : runQ P all K (⟨d, .index t x y, ty, pos, af, none⟩ :: r) env m = bindO (indexV P t (evO env x) (evO env y)) fun v => runQ P all K r (put env d v) m := q_val rfl rfl rfl
theorem q_extract {x : Operand} {i : Nat} : runQ P all K (⟨d, .extract x i, ty, pos, af, none⟩ :: r) env m = bindO (extractV i (evO env x)) fun v => runQ P all K r (put env d v) m := q_val rfl rfl rfl
theorem q_len {x : Operand} {t : TypeId} : runQ P all K (⟨d, .call { callee := .builtin .len, args := #[x], argTypes := #[t] }, ty, pos, af, none⟩ :: r) env m = bindO (lenV P m t (evO env x)) fun v => runQ P all K r (put env d v) m := q_val rfl rfl rfl
theorem q_call {f : Operand} {args : List Operand} {ts : Array TypeId} : runQ P all K (⟨d, .call { callee := .value f, args := args.toArray, argTypes := ts }, ty, pos, af, none⟩ :: r) env m =
    bindO (calleeK (evO env) f args) fun p => callQ P p.1 p.2 fun v => runQ P all K r (put env d v) m := by
  simp only [runQ, wantD, calleeV, calleeK, execD]
  cases evO env f <;> rfl
theorem q_guard {op : Op} {j : Nat} {want : Bool} : runQ P all K (⟨d, op, ty, pos, af, some (j, want)⟩ :: r) env m =
    bindO (wantD all env ⟨d, op, ty, pos, af, some (j, want)⟩) fun b => testP b (runQ P all K (⟨d, op, ty, pos, af, none⟩ :: r) env m) (runQ P all K r (put env d (.tup [])) m) := by
  have : wantD all env ⟨d, op, ty, pos, af, none⟩ = some true := rfl
  simp only [runQ, this]
  cases wantD all env ⟨d, op, ty, pos, af, some (j, want)⟩ with
  | none => rfl
  | some b => cases b <;> simp only [bindO_some, testP_true, testP_false]

theorem callQ_ans {f : FuncId} {vs : List V} {K : V → Prop} {v : V} (h : Ans P f vs v) (he : enterable P f = true) (hn : nfs vs = true) (hv : nf v = true) (hk : K v) : callQ P f vs K := ⟨hn, he, v, hv, h, hk⟩

/-! ### Regions with writes -/

def accB (acc : List (Nat × Info × Nat)) (o : Oper) (inf : Info) (len : Nat) : Bool := (inf.rd ++ inf.wr).all (fun n => Nat.blt n len) && acc.all fun x => waits o x.1 || indep x.2.1 x.2.2 inf

theorem d_nil {k : Nat} {acc : List (Nat × Info × Nat)} : runDrawn P all K k acc [] env m = K env m := rfl
theorem d_op {op : Op} {k : Nat} {acc : List (Nat × Info × Nat)} {v : V} {m' : Mem} {inf : Info} {gd : Option (Nat × Bool)} (hw : wantD all env ⟨d, op, ty, pos, af, gd⟩ = some true) (h1 : panicV (evO env) op = none) (h2 : calleeV (evO env) op = none)
    (h3 : execD P (evO env) m op = some (.val v m')) (h4 : infoD (evO env) m op v = some inf) (h5 : accB acc ⟨d, op, ty, pos, af, gd⟩ inf m.length = true)
    (h : runDrawn P all K (k + 1) ((k, inf, m.length) :: acc) r (put env d v) m') : runDrawn P all K k acc (⟨d, op, ty, pos, af, gd⟩ :: r) env m := by
  simp only [runDrawn, hw]
  unfold accB at h5
  rw [Bool.and_eq_true] at h5
  exact ⟨v, m', inf, by unfold StepV; rw [h2, h3]; exact ⟨rfl, rfl⟩, ⟨h1, h4, h5.1, h5.2⟩, h⟩
theorem d_skipOp {op : Op} {k : Nat} {acc : List (Nat × Info × Nat)} {m' : Mem} {inf : Info} {gd : Option (Nat × Bool)} (hw : wantD all env ⟨d, op, ty, pos, af, gd⟩ = some true) (h1 : panicV (evO env) op = none) (h2 : calleeV (evO env) op = none)
    (h3 : execD P (evO env) m op = some (.skip m')) (h4 : infoD (evO env) m op (.tup []) = some inf) (h5 : accB acc ⟨d, op, ty, pos, af, gd⟩ inf m.length = true)
    (h : runDrawn P all K (k + 1) ((k, inf, m.length) :: acc) r (put env d (.tup [])) m') : runDrawn P all K k acc (⟨d, op, ty, pos, af, gd⟩ :: r) env m := by
  simp only [runDrawn, hw]
  unfold accB at h5
  rw [Bool.and_eq_true] at h5
  exact ⟨.tup [], m', inf, by unfold StepV; rw [h2, h3]; exact ⟨rfl, rfl⟩, ⟨h1, h4, h5.1, h5.2⟩, h⟩
end
end Go.Proofs.Ytnhejkfbnjopjaa.Ab
