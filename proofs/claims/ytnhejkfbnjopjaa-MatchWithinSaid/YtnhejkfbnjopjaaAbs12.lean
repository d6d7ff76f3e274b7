/- A region's operations in the order of the text, calls among them. No condition. -/
import Derived.Test.YtnhejkfbnjopjaaAbs11
namespace Go.Proofs.Ytnhejkfbnjopjaa.Ab
open Go
set_option linter.unusedSimpArgs false
set_option linter.unusedVariables false

/-- Which function a call goes to, and with what. -/
def calleeV (e : Operand → V) : Op → Option (FuncId × List V)
  | .call { callee := .value f, args, .. } => match e f with
    | .fn k a b => some (k, a ++ args.toList.map e ++ b)
    | _ => none
  | _ => none

def panicV (e : Operand → V) : Op → Option V
  | .panic x => match e x with
    | .ifc t v => some (.ifc t v)
    | _ => none
  | _ => none

def rootsV (m : Mem) (vs : List V) : List Nat := reach m 80 (nmss vs) []

def okCall (L : List Nat) (m : Mem) (vs : List V) : Bool := inDs (fun k => L.contains k) vs && closedB L m

def backV (L : List Nat) (m : Mem) (v : V) (m1 : Mem) : V × Mem :=
  bif L.isEmpty && nf v then (v, m) else (ren (back L m.length) v, merge L m m1)

def okRes (L : List Nat) (v : V) (m1 : Mem) : Bool := (L.isEmpty && nf v) || okBack L v m1

/-- Can the program's functions be entered? -/
def enterable (P : Program) (f : FuncId) : Bool := match P.funcs[f]? with
  | some fn => fn.body.isSome && !(fn.name == "runtime.NumGoroutine")
  | none => false

/-- A call, by a contract. -/
def callD (P : Program) (f : FuncId) (vs : List V) (m : Mem) (K : V → Mem → Prop) (Kp : V → Mem → Prop) : Prop :=
  okCall (rootsV m vs) m vs = true ∧ enterable P f = true ∧
  ∃ Q, Snd P f (rens (idx (rootsV m vs)) vs) (view (rootsV m vs) m) Q ∧ ∀ r, Q r → okRes (rootsV m vs) r.val r.mem = true ∧
    match r with
    | .ret v m1 => K (backV (rootsV m vs) m v m1).1 (backV (rootsV m vs) m v m1).2
    | .pan v m1 => Kp (backV (rootsV m vs) m v m1).1 (backV (rootsV m vs) m v m1).2

/-- Is an operation wanted? -/
def wantD (all : Array Oper) (env : Env) (o : Oper) : Option Bool :=
  match o.guard with
  | none => some true
  | some (j, want) => match (all[j]?).bind (·.dst) with
    | some d => match env d with
      | .bool b => some (b == want)
      | .tup [] => some false
      | _ => none
    | none => none

def runOps (P : Program) (all : Array Oper) : List Oper → Env → Mem → (Env → Mem → Prop) → (V → Mem → Prop) → Prop
  | [], env, m, K, _ => K env m
  | o :: r, env, m, K, Kp =>
    match wantD all env o with
    | none => False
    | some false => runOps P all r (put env o.dst (.tup [])) m K Kp
    | some true => match panicV (evO env) o.op with
      | some v => Kp v m
      | none => match calleeV (evO env) o.op with
        | some (f, vs) => callD P f vs m (fun v m' => runOps P all r (put env o.dst v) m' K Kp) Kp
        | none => match execD P (evO env) m o.op with
          | some (.val v m') => runOps P all r (put env o.dst v) m' K Kp
          | some (.skip m') => runOps P all r (put env o.dst (.tup [])) m' K Kp
          | none => False

section
variable {P : Program} {ρ : Pl} {I : Nat → Prop} {w : World} {m : Mem}

def REnv (N : Nat) (ρ : Pl) (I : Nat → Prop) (w : World) (env : Env) (a : Act) : Prop := ∀ t, RV N ρ I w (env t) (a.tmps.getD t undef)

theorem REnv.evO {N : Nat} {env : Env} {a : Act} (h : REnv N ρ I w env a) (x : Operand) : RV N ρ I w (evO env x) (a.eval x) := by
  cases x with
  | tmp t => exact h t
  | const v => exact RV_constV _ _ _ _ v
  | global g => simp [Ab.evO, RV]
  | func f => simp only [Ab.evO, RV, Act.eval]; exact ⟨#[], #[], rfl, rfl, by simp [Rt], rfl, by simp [Rt]⟩

theorem REnv.keep {N N' : Nat} {ρ' : Pl} {I' : Nat → Prop} {w' : World} {env : Env} {a : Act} (hk : Keeps N ρ I w N' ρ' I' w') (h : REnv N ρ I w env a) : REnv N' ρ' I' w' env a :=
  fun t => RV.keep hk _ _ (h t)

theorem REnv.put {N : Nat} {env : Env} {a : Act} (h : REnv N ρ I w env a) {d : Option Nat} {v : V} {x : Value} (hv : RV N ρ I w v x) (hd : ∀ k, d = some k → k < a.tmps.size) : REnv N ρ I w (put env d v) (a.put d x) := by
  intro t
  cases d with
  | none => exact h t
  | some k =>
    simp only [Ab.put, upd, Act.put]
    cases hb : Nat.beq k t with
    | true =>
      have := Nat.eq_of_beq_eq_true hb
      subst this
      have hk := hd k rfl
      simp [hk]
      exact hv
    | false =>
      have hne : k ≠ t := fun e => by rw [e] at hb; simp at hb
      simp only [cond_false]
      have := h t
      simpa [Array.getElem?_setIfInBounds_ne hne] using this

theorem RV_undef (N : Nat) : RV N ρ I w (.tup []) undef := by
  simp only [RV]; exact ⟨#[], rfl, rfl, by simp [Rt]⟩

theorem wantD_sound {N : Nat} {all : Array Oper} {env : Env} {a : Act} {o : Oper} {b : Bool} (he : REnv N ρ I w env a) (h : wantD all env o = some b) (hb : ∀ (i : Nat) (x : Oper) d, all[i]? = some x → x.dst = some d → d < a.tmps.size) :
    Region.wanted o (yielded all a.tmps) = b := by
  unfold wantD at h
  unfold Region.wanted
  split at h
  · rename_i hg; rw [hg]; cases h; rfl
  · rename_i j want hg
    rw [hg]
    simp only
    split at h
    · rename_i d hd
      have hv := he d
      have hlt : d < a.tmps.size := by
        cases hj : all[j]? with
        | none => simp [hj] at hd
        | some x => exact hb j x d hj (by simpa [hj] using hd)
      split at h
      · rename_i c hc
        cases h
        rw [hc] at hv
        simp only [RV] at hv
        have : a.tmps[d]? = some (.bool c) := by simp [hlt] at hv ⊢; exact hv
        simp [yielded, hd, this]
      · rename_i hc
        cases h
        rw [hc] at hv
        simp only [RV] at hv
        obtain ⟨q, h1, h2, _⟩ := hv
        have h1' : a.tmps[d]? = some (.tuple q) := by simp [hlt] at h1 ⊢; exact h1
        simp [yielded, hd, h1']
      · cases h
    · cases h

/-- The call's own wp. -/
theorem callD_sound (hr : Rep ρ I m w) {a : Act} {env : Env} (he : REnv m.length ρ I w env a) {o : Oper} {f : FuncId} {vs : List V} (hc : calleeV (evO env) o.op = some (f, vs)) {K Kp : V → Mem → Prop}
    (h : callD P f vs m K Kp) {next : Act → World → Prop} {Q : Exit → Act → World → Prop}
    (hK : ∀ v m' x ρ' I' w', K v m' → Rep ρ' I' m' w' → Step ρ I m w ρ' I' m' w' → RV m'.length ρ' I' w' v x → next (a.put o.dst x) w')
    (hKp : ∀ v m' x ρ' I' w', Kp v m' → Rep ρ' I' m' w' → Step ρ I m w ρ' I' m' w' → RV m'.length ρ' I' w' v x → Q (.panic [{ v := x, recovered := false }]) a w') :
    o.wp P a w next Q := by
  obtain ⟨h1, h2, Q', h3, h4⟩ := h
  obtain ⟨dst, op, ty, pos, af, gd⟩ := o
  simp only at hc
  unfold calleeV at hc
  split at hc
  · rename_i g args ts
    split at hc
    · rename_i k first cap hg
      cases hc
      have hev := he.evO g
      rw [hg] at hev
      simp only [RV] at hev
      obtain ⟨fa, ca, e1, e2, e3, e4, e5⟩ := hev
      obtain ⟨e6, e7⟩ := Rt_map (ρ := ρ) (I := I) (w := w) (fun x => he.evO x) args
      have hexec : (execOp a.eval { dst := dst, op := .call { callee := .value g, args := args, argTypes := ts }, type := ty, pos := pos, after := af, guard := gd }).run P w = .ok (.enter f (fa ++ args.map a.eval ++ ca)) w := by
        unfold enterable at h2
        split at h2
        · rename_i fn hfn
          simp only [Bool.and_eq_true, Bool.not_eq_true'] at h2
          have hb : ¬ fn.body = none := fun e => by simp [e] at h2
          have hn : ¬ (fn.name = "runtime.NumGoroutine") := by simpa using h2.2
          simp [execOp, resolve, e1, Deferred.ofValue, invoke, callFunc, hfn, hb, hn]
        · cases h2
      have hlen : (first ++ args.toList.map (evO env) ++ cap).length = (fa ++ args.map a.eval ++ ca).size := by
        simp only [List.length_append, Array.size_append, e2, e4, e6]
      have hrt : Rt m.length ρ I w (first ++ args.toList.map (evO env) ++ cap) (fa ++ args.map a.eval ++ ca) 0 := Rt.mk fun i v hv => by
        by_cases i1 : i < first.length
        · rw [List.append_assoc, List.getElem?_append_left i1] at hv
          obtain ⟨x, k1, k2⟩ := e3.get i v hv
          exact ⟨x, by rw [Array.append_assoc, Nat.zero_add, Array.getElem?_append_left (by omega)]; simpa using k1, k2⟩
        · by_cases i2 : i < first.length + (args.toList.map (evO env)).length
          · rw [List.getElem?_append_left (by simpa using i2), List.getElem?_append_right (by omega)] at hv
            obtain ⟨x, k1, k2⟩ := e7.get _ v hv
            refine ⟨x, ?_, k2⟩
            rw [Nat.zero_add, Array.getElem?_append_left (by rw [Array.size_append]; omega), Array.getElem?_append_right (by omega), ← k1]
            congr 1; omega
          · rw [List.getElem?_append_right (by simp at i2 ⊢; omega)] at hv
            obtain ⟨x, k1, k2⟩ := e5.get _ v hv
            refine ⟨x, ?_, k2⟩
            rw [Nat.zero_add, Array.getElem?_append_right (by rw [Array.size_append]; simp at i2 e6 ⊢; omega), ← k1]
            congr 1; simp at e6 ⊢; omega
      unfold okCall at h1
      simp only [Bool.and_eq_true] at h1
      obtain ⟨d1, d2, d3⟩ := closed_parts h1.2
      have hview := hr.view h1.2
      have hrt' := Rt_sub (N' := (view (rootsV m (first ++ args.toList.map (evO env) ++ cap)) m).length) (ρ' := fun i => ρ ((rootsV m (first ++ args.toList.map (evO env) ++ cap)).getD i 0)) (fun n hn hm => view_names (ρ := ρ) (m := m) n hn hm) _ _ 0 h1.1 hrt
      have hcall := h3 _ I w (fa ++ args.map a.eval ++ ca) hview (by rw [rens_length]; exact hlen) hrt'
      unfold Oper.wp
      rw [hexec]
      simp only [Oper.upon]
      refine hcall.mono ?_
      rintro e w' ⟨r, hq, x, ρ1, I1, rfl, p1, p2, p3⟩
      obtain ⟨q1, q2⟩ := h4 r hq
      -- the result comes back
      have hback : ∃ ρ', Rep ρ' I1 (backV (rootsV m (first ++ args.toList.map (evO env) ++ cap)) m r.val r.mem).2 w' ∧
          Step ρ I m w ρ' I1 (backV (rootsV m (first ++ args.toList.map (evO env) ++ cap)) m r.val r.mem).2 w' ∧
          RV (backV (rootsV m (first ++ args.toList.map (evO env) ++ cap)) m r.val r.mem).2.length ρ' I1 w' (backV (rootsV m (first ++ args.toList.map (evO env) ++ cap)) m r.val r.mem).1 x := by
        unfold backV
        cases hL : (rootsV m (first ++ args.toList.map (evO env) ++ cap)).isEmpty && nf r.val with
        | true =>
          simp only [cond_true]
          simp only [Bool.and_eq_true, List.isEmpty_iff] at hL
          have hno : ∀ b, ¬ Own (fun i => ρ ((rootsV m (first ++ args.toList.map (evO env) ++ cap)).getD i 0)) (view (rootsV m (first ++ args.toList.map (evO env) ++ cap)) m) b := by
            intro b hb
            rw [own_view, hL.1] at hb
            obtain ⟨n, hn, _⟩ := hb
            cases hn
          have hfr : ∀ b : Nat, b < w.heap.size → w'.heap[b]? = w.heap[b]? := fun b hb => p2.frame b hb (hno b)
          have hkeep : Keeps m.length ρ I w m.length ρ I1 w' := ⟨Nat.le_refl _, fun _ _ => rfl, p2.iSub, p2.wle.imm, p2.wle.cells⟩
          refine ⟨ρ, ⟨fun n b hb => ?_, fun n hn hI => ?_, hr.inj, p1.ilt⟩, ⟨Nat.le_refl _, fun _ _ => rfl, fun _ _ h => h, p2.iSub, fun b hb => ?_, fun b hb => .inr hb, p2.wle, fun b hb _ => hfr b hb⟩, RV_nf _ _ hL.2 p3⟩
          · by_cases hl : b.live = true
            · exact (hr.blk n b hb).keep hkeep (hfr _ ((hr.blk n b hb).lt hl))
            · cases b <;> first | trivial | exact absurd rfl hl
          · rcases p2.iNew _ hI with h | h | h
            · exact hr.notI n hn h
            · have := hr.live_lt hn; omega
            · exact hno _ h
          · rcases p2.iNew _ hb with h | h | h
            · exact .inl h
            · exact .inr (.inl h)
            · exact absurd h (hno _)
        | false =>
          simp only [cond_false]
          unfold okRes at q1
          rw [hL, Bool.false_or] at q1
          unfold okBack at q1
          simp only [Bool.and_eq_true] at q1
          obtain ⟨ρ', m1, m2, m3⟩ := hr.merge h1.2 p1 p2 q1.2.1
          exact ⟨ρ', m1, m2, m3 _ _ q1.1 p3⟩
      obtain ⟨ρ', b1, b2, b3⟩ := hback
      cases r with
      | ret v m1 => exact hK _ _ x ρ' I1 w' q2 b1 b2 b3
      | pan v m1 => exact hKp _ _ x ρ' I1 w' q2 b1 b2 b3
    · cases hc
  · cases hc

def dstsOk (n : Nat) (ops : Array Oper) : Bool := ops.toList.all fun o => match o.dst with
  | some d => Nat.blt d n
  | none => true

theorem dstsOk_spec {n : Nat} {ops : Array Oper} (h : dstsOk n ops = true) {o : Oper} (ho : o ∈ ops.toList) : ∀ d, o.dst = some d → d < n := by
  intro d hd
  have := List.all_eq_true.1 h o ho
  simp only [hd, Nat.blt_eq] at this
  exact this

theorem runOps_sound {all : Array Oper} {nt : Nat} (hd : dstsOk nt all = true) {Q : Exit → Act → World → Prop} {ds : List Deferred} (ρ0 : Pl) (I0 : Nat → Prop) (m0 : Mem) (w0 : World) (K : Env → Mem → Prop) (Kp : V → Mem → Prop)
    (hK : ∀ env m a ρ I w, K env m → Rep ρ I m w → REnv m.length ρ I w env a → a.tmps.size = nt → a.defers = ds → Step ρ0 I0 m0 w0 ρ I m w → Q .normal a w)
    (hKp : ∀ v m x a ρ I w, Kp v m → Rep ρ I m w → RV m.length ρ I w v x → a.tmps.size = nt → a.defers = ds → Step ρ0 I0 m0 w0 ρ I m w → Q (.panic [{ v := x, recovered := false }]) a w) :
    ∀ (l : List Oper), (∀ o ∈ l, o ∈ all.toList) → ∀ (env : Env) (m : Mem) (a : Act) (ρ : Pl) (I : Nat → Prop) (w : World), runOps P all l env m K Kp → Rep ρ I m w → REnv m.length ρ I w env a → a.tmps.size = nt → a.defers = ds →
      Step ρ0 I0 m0 w0 ρ I m w → wpList P all Q l a w
  | [], _, env, m, a, ρ, I, w, h, hr, he, hs, hds, hst => wpList_nil (hK env m a ρ I w h hr he hs hds hst)
  | o :: r, hsub, env, m, a, ρ, I, w, h, hr, he, hs, hds, hst => by
    have ih := runOps_sound hd ρ0 I0 m0 w0 K Kp hK hKp r (fun o ho => hsub o (by simp [ho]))
    have hdo := dstsOk_spec hd (hsub o (by simp))
    have hall : ∀ (i : Nat) (x : Oper) d, all[i]? = some x → x.dst = some d → d < a.tmps.size := fun i x d h1 h2 => by
      rw [hs]; exact dstsOk_spec hd (by rw [← Array.getElem?_toList] at h1; exact List.mem_of_getElem? h1) d h2
    have hput : ∀ x, (a.put o.dst x).tmps.size = nt ∧ (a.put o.dst x).defers = ds := by
      intro x
      unfold Act.put
      cases o.dst <;> simp [hs, hds]
    simp only [runOps] at h
    split at h
    · exact h.elim
    · rename_i hw
      have := wantD_sound he hw hall
      refine wpList_skip this ?_
      exact ih _ _ _ _ _ _ h hr (he.put (RV_undef _) (fun k hk => by rw [hs]; exact hdo k hk)) (hput _).1 (hput _).2 hst
    · rename_i hw
      have hwant := wantD_sound he hw hall
      refine wpList_step fun K' hK' => ?_
      rw [if_pos hwant]
      have go : ∀ (v : V) (m' : Mem) (x : Value) (ρ' : Pl) (I' : Nat → Prop) (w' : World), runOps P all r (put env o.dst v) m' K Kp → Rep ρ' I' m' w' → Step ρ I m w ρ' I' m' w' → RV m'.length ρ' I' w' v x → K' (a.put o.dst x) w' := by
        intro v m' x ρ' I' w' h1 h2 h3 h4
        exact hK' _ _ (ih _ _ _ _ _ _ h1 h2 ((he.keep h3.keeps).put h4 (fun k hk => by rw [hs]; exact hdo k hk)) (hput _).1 (hput _).2 (hst.trans h3))
      split at h
      · -- a panic
        rename_i v hp
        unfold panicV at hp
        split at hp
        · rename_i x hop
          split at hp
          · rename_i t u hx
            cases hp
            have hv := he.evO x
            rw [hx] at hv
            have hv' := hv
            simp only [RV] at hv
            obtain ⟨y, h1, _⟩ := hv
            unfold Oper.wp
            have : (execOp a.eval o).run P w = .halt (.panic (.iface t y)) w := by
              unfold execOp
              rw [hop]
              simp [h1, Instr.panic]
            rw [this]
            simp only [Oper.upon]
            exact hKp _ _ _ a ρ I w h hr (by rw [h1] at hv'; exact hv') hs hds hst
          · cases hp
        · cases hp
      · split at h
        · rename_i f vs hc
          exact callD_sound hr he hc h (fun v m' x ρ' I' w' => go v m' x ρ' I' w') (fun v m' x ρ' I' w' h1 h2 h3 h4 => hKp v m' x a ρ' I' w' h1 h2 h4 hs hds (hst.trans h3))
        · split at h
          · rename_i v m' hx
            obtain ⟨x, w', ρ', I', k1, k2, k3, k4⟩ := execD_sound hr (fun x => he.evO x) hx
            unfold Oper.wp
            rw [k1]
            simp only [Oper.upon]
            exact go v m' x ρ' I' w' h k2 k3 k4
          · rename_i m' hx
            obtain ⟨w', ρ', I', k1, k2, k3⟩ := execD_sound hr (fun x => he.evO x) hx
            unfold Oper.wp
            rw [k1]
            simp only [Oper.upon]
            exact go (.tup []) m' undef ρ' I' w' h k2 k3 (RV_undef _)
          · exact h.elim
end
end Go.Proofs.Ytnhejkfbnjopjaa.Ab
