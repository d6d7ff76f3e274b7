/- The evaluator's code: sequences, tests, blocks, loops; and functions. No condition. A function with one deferred closure, which recovers. No condition. -/
import Derived.Test.YtjjenpdjmcmgbaaDAm4
import Derived.LoopN
import Derived.Scope
import Derived.Recover
namespace Go.Proofs.Ytjjenpdjmcmgbaa.Ab
open Go
set_option linter.unusedSimpArgs false
set_option linter.unusedVariables false
inductive Ex where
  | nrm
  | exit (id : Nat)
  | ret
  | pan (v : V)
def opdT : Operand → List Nat
  | .tmp t => [t]
  | _ => []
def addT (a b : List Nat) : List Nat := a.foldr (fun x acc => bif acc.contains x then acc else x :: acc) b
def operL (all : Array Oper) (o : Oper) (L : List Nat) : List Nat :=
  let L1 := match o.dst with
    | some d => L.filter fun x => !Nat.beq x d
    | none => L
  let g := match o.guard with
    | some (j, _) => (((all[j]?).bind (·.dst)).map fun d => [d]).getD []
    | none => []
  addT (o.op.operands.toList.flatMap opdT) (addT g L1)
def lv (R : List Nat) : Code → (Nat → List Nat) → List Nat → List Nat
  | .skip, _, L => L
  | .region _ ops _, _, L => ops.toList.foldr (fun o acc => operL ops o acc) L
  | .seq a b, E, L => lv R a E (lv R b E L)
  | .cond c a b, E, L => addT (opdT c) (addT (lv R a E L) (lv R b E L))
  | .block id b, E, L => lv R b (fun i => bif Nat.beq i id then L else E i) L
  | .loop b, E, _ => lv R b E []
  | .exit id, E, _ => E id
  | .ret, _, _ => R
  | .scope b, E, L => lv R b E L
  | _, _, L => L
def resT (fn : Func) : List Nat := fn.results.toList.map fun
  | .tmp t => t
  | .cell a _ => a
def mkEnv : List (Nat × V) → Env
  | [] => fun _ => .unk
  | (t, v) :: r => upd (mkEnv r) t v
def prefixB (K0 : Nat) (L : List Nat) : Bool := (List.range K0).all fun i => Nat.beq (L.getD i (i + 1)) i
def canon (K0 : Nat) (keep : List Nat) (env : Env) (m : Mem) : Option (Env × Mem) :=
  (fun L => bif inDs (fun k => L.contains k) (keep.map env) && (closedB L m && prefixB K0 L) then some (mkEnv (keep.zip (rens (idx L) (keep.map env))), view L m) else none) (reach m 2000 (List.range K0 ++ nmss (keep.map env)) [])
/-- Where the next round begins: made small, or as it is. -/
def Shr (K0 : Nat) (keep : List Nat) (env : Env) (m : Mem) (env' : Env) (m' : Mem) : Prop :=
  canon K0 keep env m = some (env', m') ∨ (env' = mkEnv (keep.map fun t => (t, env t)) ∧ m' = m)
def iterW (K0 : Nat) (keep : List Nat) (body : Env → Mem → (Ex → Env → Mem → Prop) → Prop) : Nat → Env → Mem → (Ex → Env → Mem → Prop) → Prop
  | 0, _, _, _ => False
  | n + 1, env, m, Q => ∃ env' m', Shr K0 keep env m env' m' ∧ body env' m' fun ex e m => match ex with
    | .nrm => iterW K0 keep body n e m Q
    | _ => Q ex e m
def W (P : Program) (K0 : Nat) (R : List Nat) : Code → (Nat → List Nat) → List Nat → Env → Mem → (Ex → Env → Mem → Prop) → Prop
  | .skip, _, _, env, m, Q => Q .nrm env m
  | .label _, _, _, env, m, Q => Q .nrm env m
  | .region _ ops true, _, _, env, m, Q => runDrawn P ops (Q .nrm) 0 [] ops.toList env m ∨ runDrawnP P ops (fun v m => Q (.pan v) (wipe ops env) m) 0 [] ops.toList env m ∨
      (∃ p s d sz, lateB P ops p s d sz = true ∧ runDrawnX P (lateA ops p s d) (lateX0 ops s sz) (Q .nrm) 0 [] (lateA ops p s d).toList env m) ∨
      anyN P ops (Q .nrm) (fun v m => Q (.pan v) (wipe ops env) m) ops.size (Array.replicate ops.size false) env m
  | .region _ ops false, _, _, env, m, Q => runOps P ops ops.toList env m (Q .nrm) fun v m => Q (.pan v) (wipe ops env) m
  | .seq a b, E, L, env, m, Q => W P K0 R a E (lv R b E L) env m fun ex env m => match ex with
    | .nrm => W P K0 R b E L env m Q
    | _ => Q ex env m
  | .cond c a b, E, L, env, m, Q => match evO env c with
    | .bool t => (t = true → W P K0 R a E L env m Q) ∧ (t = false → W P K0 R b E L env m Q)
    | _ => False
  | .block id b, E, L, env, m, Q => W P K0 R b (fun i => bif Nat.beq i id then L else E i) L env m fun ex env m => match ex with
    | .exit i => bif Nat.beq i id then Q .nrm env m else Q (.exit i) env m
    | _ => Q ex env m
  | .loop b, E, _, env, m, Q => ∃ n, iterW K0 (lv R b E []) (fun env m Q => W P K0 R b E (lv R b E []) env m Q) n env m Q
  | .exit id, _, _, env, m, Q => Q (.exit id) env m
  | .ret, _, _, env, m, Q => Q .ret env m
  | .scope b, E, L, env, m, Q => W P K0 R b E L env m Q
  | _, _, _, _, _, _ => False
def codeOk (nt : Nat) : Code → Bool
  | .region _ ops dr => dstsOk nt ops && (!dr || Region.lexB .any ops)
  | .seq a b => codeOk nt a && codeOk nt b
  | .cond _ a b => codeOk nt a && codeOk nt b
  | .block _ b => codeOk nt b
  | .loop b => codeOk nt b
  | .scope b => codeOk nt b
  | .skip => true
  | .label _ => true
  | .exit _ => true
  | .ret => true
  | _ => false
section
variable {P : Program}
theorem runOps_mono {all : Array Oper} {K K' : Env → Mem → Prop} {Kp Kp' : V → Mem → Prop} (hK : ∀ e m, K e m → K' e m) (hKp : ∀ v m, Kp v m → Kp' v m) :
    ∀ (l : List Oper) (env : Env) (m : Mem), runOps P all l env m K Kp → runOps P all l env m K' Kp'
  | [], _, _, h => hK _ _ h
  | o :: r, env, m, h => by
    simp only [runOps] at h ⊢
    split at h
    · exact h.elim
    · exact runOps_mono hK hKp r _ _ h
    · split at h
      · exact hKp _ _ h
      · split at h
        · rcases h with ⟨h1, h2, Q, h3, h4⟩ | ⟨h2, Q, h3, h4⟩
          · refine .inl ⟨h1, h2, Q, h3, fun r' hr' => ?_⟩
            obtain ⟨k1, k2⟩ := h4 r' hr'
            refine ⟨k1, ?_⟩
            cases r' with
            | ret v m1 => exact runOps_mono hK hKp r _ _ k2
            | pan v m1 => exact hKp _ _ k2
          · refine .inr ⟨h2, Q, h3, fun r' hr' => ?_⟩
            have k2 := h4 r' hr'
            cases r' with
            | ret v m1 => exact runOps_mono hK hKp r _ _ k2
            | pan v m1 => exact hKp _ _ k2
        · split at h
          · exact runOps_mono hK hKp r _ _ h
          · exact runOps_mono hK hKp r _ _ h
          · exact fun p hp => runOps_mono hK hKp r _ _ (h p hp)
          · exact h.elim
theorem runDrawn_mono {all : Array Oper} {K K' : Env → Mem → Prop} (hK : ∀ e m, K e m → K' e m) :
    ∀ (l : List Oper) (k : Nat) (acc : List (Nat × Info × Nat)) (env : Env) (m : Mem), runDrawn P all K k acc l env m → runDrawn P all K' k acc l env m
  | [], _, _, _, _, h => hK _ _ h
  | o :: r, k, acc, env, m, h => by
    simp only [runDrawn] at h ⊢
    split at h
    · exact h.elim
    · exact runDrawn_mono hK r _ _ _ _ h
    · obtain ⟨v, m', inf, h1, h2, h3⟩ := h
      exact ⟨v, m', inf, h1, h2, runDrawn_mono hK r _ _ _ _ h3⟩
theorem iterW_mono {K0 : Nat} {keep : List Nat} {body : Env → Mem → (Ex → Env → Mem → Prop) → Prop} (hb : ∀ env m (Q Q' : Ex → Env → Mem → Prop), (∀ ex e m, Q ex e m → Q' ex e m) → body env m Q → body env m Q') :
    ∀ (n : Nat) (env : Env) (m : Mem) (Q Q' : Ex → Env → Mem → Prop), (∀ ex e m, Q ex e m → Q' ex e m) → iterW K0 keep body n env m Q → iterW K0 keep body n env m Q'
  | 0, _, _, _, _, _, h => h
  | n + 1, env, m, Q, Q', hq, h => by
    obtain ⟨e', m', h1, h2⟩ := h
    refine ⟨e', m', h1, hb _ _ _ _ (fun ex e m h => ?_) h2⟩
    cases ex with
    | nrm => exact iterW_mono hb n e m Q Q' hq h
    | _ => exact hq _ _ _ h
theorem W_mono {K0 : Nat} {R : List Nat} : ∀ (c : Code) (E : Nat → List Nat) (L : List Nat) (env : Env) (m : Mem) (Q Q' : Ex → Env → Mem → Prop), (∀ ex e m, Q ex e m → Q' ex e m) → W P K0 R c E L env m Q → W P K0 R c E L env m Q'
  | .skip, _, _, _, _, _, _, hq, h => hq _ _ _ h
  | .label _, _, _, _, _, _, _, hq, h => hq _ _ _ h
  | .exit _, _, _, _, _, _, _, hq, h => hq _ _ _ h
  | .ret, _, _, _, _, _, _, hq, h => hq _ _ _ h
  | .region _ ops true, _, _, _, _, _, _, hq, h => h.imp (runDrawn_mono (fun e m h => hq _ e m h) _ _ _ _ _) (Or.imp (runDrawnP_mono (fun v m h => hq _ _ m h) _ _ _ _ _) (Or.imp (fun ⟨p, s, d, sz, h1, h2⟩ => ⟨p, s, d, sz, h1, runDrawnX_mono (fun e m h => hq _ e m h) _ _ _ _ _ h2⟩) (anyN_mono (fun e m h => hq _ e m h) (fun v m h => hq _ _ m h) _ _ _ _)))
  | .region _ ops false, _, _, _, _, _, _, hq, h => runOps_mono (fun e m h => hq _ e m h) (fun v m h => hq _ _ m h) _ _ _ h
  | .seq a b, E, L, env, m, Q, Q', hq, h => by
    simp only [W] at h ⊢
    refine W_mono a E _ env m _ _ (fun ex e m h => ?_) h
    cases ex with
    | nrm => exact W_mono b E L e m Q Q' hq h
    | _ => exact hq _ _ _ h
  | .cond c a b, E, L, env, m, Q, Q', hq, h => by
    simp only [W] at h ⊢
    split at h
    · exact ⟨fun t => W_mono a E L env m Q Q' hq (h.1 t), fun t => W_mono b E L env m Q Q' hq (h.2 t)⟩
    · exact h
  | .block id b, E, L, env, m, Q, Q', hq, h => by
    simp only [W] at h ⊢
    refine W_mono b _ L env m _ _ (fun ex e m h => ?_) h
    cases ex with
    | exit i =>
      simp only at h ⊢
      cases hb : Nat.beq i id with
      | true => rw [hb] at h; exact hq _ _ _ h
      | false => rw [hb] at h; exact hq _ _ _ h
    | _ => exact hq _ _ _ h
  | .loop b, E, L, env, m, Q, Q', hq, h => by
    simp only [W] at h ⊢
    obtain ⟨n, h⟩ := h
    exact ⟨n, iterW_mono (fun env m Q Q' hq h => W_mono b E _ env m Q Q' hq h) n env m Q Q' hq h⟩
  | .scope b, E, L, env, m, Q, Q', hq, h => by
    simp only [W] at h ⊢
    exact W_mono b E L env m Q Q' hq h
  | .rangeFunc _ _ _ _, _, _, _, _, _, _, _, h => by simp [W] at h
  | .goto _, _, _, _, _, _, _, _, h => by simp [W] at h
  | .refuse _, _, _, _, _, _, _, _, h => by simp [W] at h
/-- How the state behind some code stands to the one ahead of it; the first K names stay. -/
structure Fr (K : Nat) (ρ : Pl) (I : Nat → Prop) (m : Mem) (w : World) (ρ' : Pl) (I' : Nat → Prop) (m' : Mem) (w' : World) : Prop where
  len : K ≤ m'.length
  rho : ∀ n, n < K → ρ' n = ρ n
  dead : ∀ n, n < K → live m' n → live m n
  iSub : ∀ b, I b → I' b
  iNew : ∀ b, I' b → I b ∨ w.heap.size ≤ b ∨ Own ρ m b
  own : ∀ b, Own ρ' m' b → w.heap.size ≤ b ∨ Own ρ m b
  wle : WLe I w w'
  frame : ∀ b : Nat, b < w.heap.size → ¬ Own ρ m b → w'.heap[b]? = w.heap[b]?
theorem Step.fr {ρ ρ' : Pl} {I I' : Nat → Prop} {m m' : Mem} {w w' : World} (h : Step ρ I m w ρ' I' m' w') {K : Nat} (hK : K ≤ m.length) : Fr K ρ I m w ρ' I' m' w' :=
  ⟨Nat.le_trans hK h.len, fun n hn => h.rho n (by omega), fun n hn => h.dead n (by omega), h.iSub, h.iNew, h.own, h.wle, h.frame⟩
theorem Fr.step {ρ ρ' : Pl} {I I' : Nat → Prop} {m m' : Mem} {w w' : World} (h : Fr m.length ρ I m w ρ' I' m' w') : Step ρ I m w ρ' I' m' w' :=
  ⟨h.len, h.rho, h.dead, h.iSub, h.iNew, h.own, h.wle, h.frame⟩
theorem Fr.trans {K : Nat} {ρ ρ' ρ'' : Pl} {I I' I'' : Nat → Prop} {m m' m'' : Mem} {w w' w'' : World}
    (h : Fr K ρ I m w ρ' I' m' w') (k : Fr K ρ' I' m' w' ρ'' I'' m'' w'') : Fr K ρ I m w ρ'' I'' m'' w'' where
  len := k.len
  rho n hn := (k.rho n hn).trans (h.rho n hn)
  dead n hn hl := h.dead n hn (k.dead n hn hl)
  iSub b hb := k.iSub b (h.iSub b hb)
  iNew b hb := by
    rcases k.iNew b hb with h1 | h1 | h1
    · exact h.iNew b h1
    · exact .inr (.inl (Nat.le_trans h.wle.size h1))
    · exact .inr (h.own b h1)
  own b hb := by
    rcases k.own b hb with h1 | h1
    · exact .inl (Nat.le_trans h.wle.size h1)
    · exact h.own b h1
  wle := ⟨k.wle.os.trans h.wle.os, k.wle.tape.trans h.wle.tape, k.wle.output.trans h.wle.output, Nat.le_trans h.wle.size k.wle.size,
    fun b hb => (k.wle.imm b (h.iSub b hb)).trans (h.wle.imm b hb),
    fun b c ty hb => by
      obtain ⟨c1, h1, h2⟩ := h.wle.cells b c ty hb
      obtain ⟨c2, h3, h4⟩ := k.wle.cells b c1 ty h1
      exact ⟨c2, h3, h4.trans h2⟩⟩
  frame b hb ho := by
    have h1 := h.frame b hb ho
    rw [k.frame b (Nat.lt_of_lt_of_le hb h.wle.size) (fun h2 => by
      rcases h.own b h2 with h3 | h3
      · omega
      · exact ho h3)]
    exact h1
theorem canon_sound {K0 : Nat} {keep : List Nat} {env env' : Env} {m m' : Mem} {ρ : Pl} {I : Nat → Prop} {w : World} {a : Act} (hr : Rep ρ I m w) (he : REnv m.length ρ I w env a)
    (h : canon K0 keep env m = some (env', m')) : ∃ ρ', Rep ρ' I m' w ∧ REnv m'.length ρ' I w env' a ∧ Fr K0 ρ I m w ρ' I m' w := by
  unfold canon at h
  generalize hL : reach m 2000 (List.range K0 ++ nmss (keep.map env)) [] = L at h
  simp only at h
  cases hc : inDs (fun k => L.contains k) (keep.map env) && (closedB L m && prefixB K0 L) with
  | false => rw [hc] at h; cases h
  | true =>
    rw [hc] at h
    simp only [cond_true, Option.some.injEq, Prod.mk.injEq] at h
    obtain ⟨rfl, rfl⟩ := h
    simp only [Bool.and_eq_true] at hc
    obtain ⟨h1, h2, h3⟩ := hc
    have hpre : ∀ i, i < K0 → L[i]? = some i := by
      intro i hi
      unfold prefixB at h3
      have := List.all_eq_true.1 h3 i (List.mem_range.2 hi)
      have e := Nat.eq_of_beq_eq_true this
      cases hli : L[i]? with
      | none => simp [List.getD, hli] at e
      | some x => simp [List.getD, hli] at e; rw [e]
    refine ⟨fun i => ρ (L.getD i 0), hr.view h2, ?_, ⟨?_, ?_, ?_, fun _ h => h, fun _ h => .inl h, ?_, WLe.refl _ _, fun _ _ _ => rfl⟩⟩
    · have aux : ∀ (ks : List Nat), inDs (fun k => L.contains k) (ks.map env) = true → REnv (view L m).length (fun i => ρ (L.getD i 0)) I w (mkEnv (ks.zip (rens (idx L) (ks.map env)))) a := by
        intro ks
        induction ks with
        | nil => intro _ t; simp [mkEnv, RV]
        | cons k ks ih =>
          intro hks t
          simp only [List.map_cons, inDs, Bool.and_eq_true] at hks
          simp only [List.map_cons, rens, List.zip_cons_cons, mkEnv, upd]
          cases hb : Nat.beq k t with
          | true =>
            have := Nat.eq_of_beq_eq_true hb
            subst this
            exact RV_sub (D := fun k => L.contains k) (fun n hn hm => view_names (ρ := ρ) (m := m) n hn hm) _ _ hks.1 (he k)
          | false => exact ih hks.2 t
      exact aux keep h1
    · show K0 ≤ (view L m).length
      simp only [view, List.length_map]
      rcases Nat.eq_zero_or_pos K0 with h0 | h0
      · omega
      · have := (List.getElem?_eq_some_iff.1 (hpre (K0 - 1) (by omega))).1
        omega
    · intro n hn
      simp only [getD_of (hpre n hn)]
    · intro n hn hl
      obtain ⟨k, k1, k2⟩ := live_view hl
      rw [hpre n hn] at k1; cases k1
      exact k2
    · intro b hb
      obtain ⟨n, _, k2, k3⟩ := own_view.1 hb
      exact .inr ⟨n, k2, k3⟩
theorem keepE_sound {N : Nat} {ρ : Pl} {I : Nat → Prop} {w : World} {env : Env} {a : Act} (he : REnv N ρ I w env a) : ∀ keep : List Nat, REnv N ρ I w (mkEnv (keep.map fun t => (t, env t))) a
  | [] => fun t => by simp [mkEnv, RV]
  | k :: ks => fun t => by
    simp only [List.map_cons, mkEnv, upd]
    cases hb : Nat.beq k t with
    | true =>
      have := Nat.eq_of_beq_eq_true hb
      subst this
      exact he k
    | false => exact keepE_sound he ks t
theorem shr_sound {K0 : Nat} {keep : List Nat} {env env' : Env} {m m' : Mem} {ρ : Pl} {I : Nat → Prop} {w : World} {a : Act} (hr : Rep ρ I m w) (he : REnv m.length ρ I w env a) (hK : K0 ≤ m.length)
    (h : Shr K0 keep env m env' m') : ∃ ρ', Rep ρ' I m' w ∧ REnv m'.length ρ' I w env' a ∧ Fr K0 ρ I m w ρ' I m' w := by
  rcases h with h | ⟨rfl, rfl⟩
  · exact canon_sound hr he h
  · exact ⟨ρ, hr, keepE_sound he keep, (Step.refl ρ I m' w).fr hK⟩
/-- How an exit stands for one of the machine's. -/
def ExR (N : Nat) (ρ : Pl) (I : Nat → Prop) (w : World) : Ex → Exit → Prop
  | .nrm, e => e = .normal
  | .exit i, e => e = .exit i
  | .ret, e => e = .ret
  | .pan v, e => ∃ x, e = .panic [{ v := x, recovered := false }] ∧ RV N ρ I w v x
/-- What some code has come to. -/
def Came2 (K0 nt : Nat) (ds : List Deferred) (ρ : Pl) (I : Nat → Prop) (m : Mem) (w : World) (Q : Ex → Env → Mem → Prop) (e : Exit) (a' : Act) (w' : World) : Prop :=
  ∃ ex env' m' ρ' I', Q ex env' m' ∧ ExR m'.length ρ' I' w' ex e ∧ Rep ρ' I' m' w' ∧ REnv m'.length ρ' I' w' env' a' ∧ a'.tmps.size = nt ∧ a'.defers = ds ∧ Fr K0 ρ I m w ρ' I' m' w'
theorem Came2.trans {K0 nt : Nat} {ds : List Deferred} {ρ ρ1 : Pl} {I I1 : Nat → Prop} {m m1 : Mem} {w w1 w' : World} {Q : Ex → Env → Mem → Prop} {e : Exit} {a' : Act}
    (h : Came2 K0 nt ds ρ1 I1 m1 w1 Q e a' w') (hf : Fr K0 ρ I m w ρ1 I1 m1 w1) : Came2 K0 nt ds ρ I m w Q e a' w' := by
  obtain ⟨ex, env', m', ρ', I', h1, h2, h3, h4, h5, h6, h7⟩ := h
  exact ⟨ex, env', m', ρ', I', h1, h2, h3, h4, h5, h6, hf.trans h7⟩
theorem Fr.refl {K : Nat} {ρ : Pl} {I : Nat → Prop} {m : Mem} {w : World} (h : K ≤ m.length) : Fr K ρ I m w ρ I m w := (Step.refl ρ I m w).fr h
variable {K0 nt : Nat} {R : List Nat} {ds : List Deferred}
theorem Came2.simple {ρ : Pl} {I : Nat → Prop} {m : Mem} {w : World} {Q : Ex → Env → Mem → Prop} {ex : Ex} {e : Exit} {env : Env} {a : Act} (hq : Q ex env m) (hex : ExR m.length ρ I w ex e) (hr : Rep ρ I m w) (he : REnv m.length ρ I w env a)
    (hs : a.tmps.size = nt) (hd : a.defers = ds) (hK : K0 ≤ m.length) : Came2 K0 nt ds ρ I m w Q e a w :=
  ⟨ex, env, m, ρ, I, hq, hex, hr, he, hs, hd, Fr.refl hK⟩
/-- A loop's rounds, in whatever walk. -/
def roundsX (X : Code → (Exit → Act → World → Prop) → Act → World → Prop) (c : Code) (Q : Exit → Act → World → Prop) : Nat → Act → World → Prop
  | 0, _, _ => False
  | n + 1, a, w => X c (Exit.then (roundsX X c Q n) Q) a w
/-- Is no call deferred in it? -/
def noDefB (ops : Array Oper) : Bool := ops.toList.all fun o => match o.op with | .defer _ => false | _ => true
/-- What a walk of code must know: a function's own, or a round's. -/
structure Walk (P : Program) (sc : Bool) (X : Code → (Exit → Act → World → Prop) → Act → World → Prop) : Prop where
  skip : ∀ {Q a w}, Q .normal a w → X .skip Q a w
  label : ∀ {l Q a w}, Q .normal a w → X (.label l) Q a w
  exit : ∀ {id Q a w}, Q (.exit id) a w → X (.exit id) Q a w
  ret : ∀ {Q a w}, Q .ret a w → X .ret Q a w
  mono : ∀ {c Q Q' a w}, X c Q a w → (∀ e a w, Q e a w → Q' e a w) → X c Q' a w
  seq : ∀ {x y Q a w}, X x (Exit.then (X y Q) Q) a w → X (.seq x y) Q a w
  cond : ∀ {c x y Q a w t}, Act.eval a c = .bool t → (t = true → X x Q a w) → (t = false → X y Q a w) → X (.cond c x y) Q a w
  block : ∀ {id c Q a w}, X c (Exit.inBlock id Q) a w → X (.block id c) Q a w
  loop : ∀ {c Q a w} n, roundsX X c Q n a w → X (.loop c) Q a w
  scope : ∀ {c Q a w}, sc = true → X c (Exit.noGoto Q) a w → X (.scope c) Q a w
  list : ∀ {id ops Q a w}, (sc || noDefB ops) = true → ¬ LetsOut Q → wpList P ops Q ops.toList a w → X (.region id ops false) Q a w
  any : ∀ {id ops Q a w}, (sc || noDefB ops) = true → ¬ LetsOut Q → wpAny P .any ops Q ops.size (Array.replicate ops.size false) a (World.drew w) → X (.region id ops true) Q a w
theorem rounds_X {P : Program} {c : Code} {Q : Exit → Act → World → Prop} : ∀ (n : Nat) (a : Act) (w : World), roundsX (fun c Q a w => c.wp P Q a w) c Q n a w → Code.rounds P c Q n a w
  | 0, _, _, h => h
  | n + 1, a, w, h => by
    rw [rounds_succ]
    refine wp_mono h fun e a w h => ?_
    cases e <;> first | exact rounds_X n a w h | exact h
theorem walk_wp {P : Program} (hfol : P.follows .mixedOrders = true) : Walk P true (fun c Q a w => c.wp P Q a w) where
  skip h := wp_skip h
  label h := wp_label h
  exit h := wp_exit h
  ret h := wp_ret h
  mono h hq := wp_mono h hq
  seq h := wp_seq h
  cond hc h1 h2 := wp_cond_split hc h1 h2
  block h := wp_block h
  loop n h := wp_loop_rounds n (rounds_X n _ _ h)
  scope _ h := wp_scope_straight h
  list _ _ h := wp_region_list h
  any _ _ h := wp_region_any hfol h
/-- Is no scope in it? -/
def noSc : Code → Bool
  | .scope _ => false
  | .region _ ops _ => noDefB ops
  | .seq a b => noSc a && noSc b
  | .cond _ a b => noSc a && noSc b
  | .block _ b => noSc b
  | .loop b => noSc b
  | _ => true
theorem sc_l {sc a b : Bool} (h : (sc || (a && b)) = true) : (sc || a) = true := by cases sc <;> simp_all
theorem sc_r {sc a b : Bool} (h : (sc || (a && b)) = true) : (sc || b) = true := by cases sc <;> simp_all
theorem came_lets {K0 nt : Nat} {ds : List Deferred} {ρ : Pl} {I : Nat → Prop} {m : Mem} {w : World} {Q : Ex → Env → Mem → Prop} : ¬ LetsOut (Came2 K0 nt ds ρ I m w Q) := by
  rintro ⟨a, w', ex, _, _, _, _, _, h, _⟩
  cases ex with
  | pan v => obtain ⟨_, h, _⟩ := h; cases h
  | _ => cases h
theorem W_soundX {sc : Bool} {X : Code → (Exit → Act → World → Prop) → Act → World → Prop} (hX : Walk P sc X) : ∀ (c : Code), codeOk nt c = true → (sc || noSc c) = true → ∀ (E : Nat → List Nat) (L : List Nat) (env : Env) (m : Mem) (Q : Ex → Env → Mem → Prop), W P K0 R c E L env m Q →
    ∀ (ρ : Pl) (I : Nat → Prop) (a : Act) (w : World), Rep ρ I m w → REnv m.length ρ I w env a → a.tmps.size = nt → a.defers = ds → K0 ≤ m.length → X c (Came2 K0 nt ds ρ I m w Q) a w
  | .skip, _, _, _, _, _, _, _, h, _, _, _, _, hr, he, hs, hd, hK => hX.skip (Came2.simple h rfl hr he hs hd hK)
  | .label _, _, _, _, _, _, _, _, h, _, _, _, _, hr, he, hs, hd, hK => hX.label (Came2.simple h rfl hr he hs hd hK)
  | .exit _, _, _, _, _, _, _, _, h, _, _, _, _, hr, he, hs, hd, hK => hX.exit (Came2.simple h rfl hr he hs hd hK)
  | .ret, _, _, _, _, _, _, _, h, _, _, _, _, hr, he, hs, hd, hK => hX.ret (Came2.simple h rfl hr he hs hd hK)
  | .region id ops true, hok, hsc, _, _, env, m, Q, h, ρ, I, a, w, hr, he, hs, hd, hK => by
    simp only [codeOk, Bool.not_true, Bool.false_or, Bool.and_eq_true] at hok
    simp only [W] at h
    rcases h with h | h | h | h
    · exact drawn_sound (Q := Came2 K0 nt ds ρ I m w Q) hok.1 hok.2 (Q .nrm) h hr he hs hd (fun env m' a ρ' I' w' k1 k2 k3 k4 k5 k6 => ⟨.nrm, env, m', ρ', I', k1, rfl, k2, k3, k4, k5, k6.fr hK⟩) (hX.any hsc came_lets)
    · exact drawn_soundP (Q := Came2 K0 nt ds ρ I m w Q) hok.1 hok.2 (fun v m => Q (.pan v) (wipe ops env) m) h hr he hs hd (fun v m' x a ρ' I' w' k1 k2 k3 k3' k4 k5 k6 => ⟨.pan v, wipe ops env, m', ρ', I', k1, ⟨x, rfl, k3⟩, k2, k3', k4, k5, k6.fr hK⟩) (hX.any hsc came_lets)
    · obtain ⟨p, s, d, sz, h1, h2⟩ := h
      exact drawn_late (Q := Came2 K0 nt ds ρ I m w Q) hok.1 hok.2 h1 (Q .nrm) h2 hr he hs hd (fun env m' a ρ' I' w' k1 k2 k3 k4 k5 k6 => ⟨.nrm, env, m', ρ', I', k1, rfl, k2, k3, k4, k5, k6.fr hK⟩) (hX.any hsc came_lets)
    · exact drawn_soundN (Q := Came2 K0 nt ds ρ I m w Q) hok.1 (Q .nrm) (fun v m => Q (.pan v) (wipe ops env) m) h hr he hs hd (fun env m' a ρ' I' w' k1 k2 k3 k4 k5 k6 => ⟨.nrm, env, m', ρ', I', k1, rfl, k2, k3, k4, k5, k6.fr hK⟩) (fun v m' x a ρ' I' w' k1 k2 k3 k3' k4 k5 k6 => ⟨.pan v, wipe ops env, m', ρ', I', k1, ⟨x, rfl, k3⟩, k2, k3', k4, k5, k6.fr hK⟩) (hX.any hsc came_lets)
  | .region id ops false, hok, hsc, _, _, env, m, Q, h, ρ, I, a, w, hr, he, hs, hd, hK => by
    simp only [codeOk, Bool.not_false, Bool.true_or, Bool.and_true] at hok
    simp only [W] at h
    exact hX.list hsc came_lets (runOps_sound hok ρ I m w env (Q .nrm) (fun v m => Q (.pan v) (wipe ops env) m)
      (fun env m' a ρ' I' w' k1 k2 k3 k4 k5 k6 => ⟨.nrm, env, m', ρ', I', k1, rfl, k2, k3, k4, k5, k6.fr hK⟩)
      (fun v m' x a ρ' I' w' k1 k2 k3 k3' k4 k5 k6 => ⟨.pan v, wipe ops env, m', ρ', I', k1, ⟨x, rfl, k3⟩, k2, k3', k4, k5, k6.fr hK⟩)
      ops.toList (fun _ h => h) env m a ρ I w rfl h hr he hs hd (Step.refl _ _ _ _))
  | .seq x y, hok, hsc, E, L, env, m, Q, h, ρ, I, a, w, hr, he, hs, hd, hK => by
    simp only [codeOk, Bool.and_eq_true] at hok
    simp only [W] at h
    refine hX.seq (hX.mono (W_soundX hX x hok.1 (sc_l hsc) _ _ _ _ _ h ρ I a w hr he hs hd hK) ?_)
    rintro e a1 w1 ⟨ex, env1, m1, ρ1, I1, q1, q2, q3, q4, q5, q6, q7⟩
    cases ex with
    | nrm =>
      cases q2
      simp only [Exit.then]
      exact hX.mono (W_soundX hX y hok.2 (sc_r hsc) _ _ _ _ _ q1 ρ1 I1 a1 w1 q3 q4 q5 q6 q7.len) fun e a w h => h.trans q7
    | exit i => cases q2; exact ⟨.exit i, env1, m1, ρ1, I1, q1, rfl, q3, q4, q5, q6, q7⟩
    | ret => cases q2; exact ⟨.ret, env1, m1, ρ1, I1, q1, rfl, q3, q4, q5, q6, q7⟩
    | pan v =>
      obtain ⟨x', rfl, q2⟩ := q2
      exact ⟨.pan v, env1, m1, ρ1, I1, q1, ⟨x', rfl, q2⟩, q3, q4, q5, q6, q7⟩
  | .cond c x y, hok, hsc, E, L, env, m, Q, h, ρ, I, a, w, hr, he, hs, hd, hK => by
    simp only [codeOk, Bool.and_eq_true] at hok
    simp only [W] at h
    split at h
    · rename_i t ht
      have hc := he.evO c
      rw [ht] at hc
      simp only [RV] at hc
      exact hX.cond hc (fun h1 => W_soundX hX x hok.1 (sc_l hsc) _ _ _ _ _ (h.1 h1) ρ I a w hr he hs hd hK) (fun h1 => W_soundX hX y hok.2 (sc_r hsc) _ _ _ _ _ (h.2 h1) ρ I a w hr he hs hd hK)
    · exact h.elim
  | .block id b, hok, hsc, E, L, env, m, Q, h, ρ, I, a, w, hr, he, hs, hd, hK => by
    simp only [codeOk] at hok
    simp only [W] at h
    refine hX.block (hX.mono (W_soundX hX b hok hsc _ _ _ _ _ h ρ I a w hr he hs hd hK) ?_)
    rintro e a1 w1 ⟨ex, env1, m1, ρ1, I1, q1, q2, q3, q4, q5, q6, q7⟩
    cases ex with
    | nrm => cases q2; exact ⟨.nrm, env1, m1, ρ1, I1, q1, rfl, q3, q4, q5, q6, q7⟩
    | exit i =>
      cases q2
      simp only [Exit.inBlock]
      simp only at q1
      cases hb : Nat.beq i id with
      | true =>
        rw [hb] at q1
        have := Nat.eq_of_beq_eq_true hb
        rw [if_pos this]
        exact ⟨.nrm, env1, m1, ρ1, I1, q1, rfl, q3, q4, q5, q6, q7⟩
      | false =>
        rw [hb] at q1
        rw [if_neg (fun e => by rw [e] at hb; simp at hb)]
        exact ⟨.exit i, env1, m1, ρ1, I1, q1, rfl, q3, q4, q5, q6, q7⟩
    | ret => cases q2; exact ⟨.ret, env1, m1, ρ1, I1, q1, rfl, q3, q4, q5, q6, q7⟩
    | pan v =>
      obtain ⟨x', rfl, q2⟩ := q2
      exact ⟨.pan v, env1, m1, ρ1, I1, q1, ⟨x', rfl, q2⟩, q3, q4, q5, q6, q7⟩
  | .loop b, hok, hsc, E, L, env, m, Q, h, ρ, I, a, w, hr, he, hs, hd, hK => by
    simp only [codeOk] at hok
    simp only [W] at h
    obtain ⟨n, h⟩ := h
    refine hX.loop n ?_
    have key : ∀ (n : Nat) (env : Env) (m1 : Mem), iterW K0 (lv R b E []) (fun env m Q => W P K0 R b E (lv R b E []) env m Q) n env m1 Q → ∀ (ρ1 : Pl) (I1 : Nat → Prop) (a : Act) (w1 : World), Rep ρ1 I1 m1 w1 → REnv m1.length ρ1 I1 w1 env a →
        a.tmps.size = nt → a.defers = ds → Fr K0 ρ I m w ρ1 I1 m1 w1 → roundsX X b (Came2 K0 nt ds ρ I m w Q) n a w1 := by
      intro n
      induction n with
      | zero => intro _ _ h; exact h.elim
      | succ n ih =>
        intro env m1 h ρ1 I1 a w1 hr1 he1 hs1 hd1 hf1
        obtain ⟨env', m', h1, h2⟩ := h
        obtain ⟨ρ2, r1, r2, r3⟩ := shr_sound hr1 he1 hf1.len h1
        rw [roundsX]
        have hf2 := hf1.trans r3
        refine hX.mono (W_soundX hX b hok hsc _ _ _ _ _ h2 ρ2 I1 a w1 r1 r2 hs1 hd1 r3.len) ?_
        rintro e a2 w2 ⟨ex, env2, m2, ρ3, I3, q1, q2, q3, q4, q5, q6, q7⟩
        cases ex with
        | nrm =>
          cases q2
          simp only [Exit.then]
          exact ih env2 m2 q1 ρ3 I3 a2 w2 q3 q4 q5 q6 (hf2.trans q7)
        | exit i => cases q2; exact ⟨.exit i, env2, m2, ρ3, I3, q1, rfl, q3, q4, q5, q6, hf2.trans q7⟩
        | ret => cases q2; exact ⟨.ret, env2, m2, ρ3, I3, q1, rfl, q3, q4, q5, q6, hf2.trans q7⟩
        | pan v =>
          obtain ⟨x', rfl, q2⟩ := q2
          exact ⟨.pan v, env2, m2, ρ3, I3, q1, ⟨x', rfl, q2⟩, q3, q4, q5, q6, hf2.trans q7⟩
    exact key n env m h ρ I a w hr he hs hd (Fr.refl hK)
  | .scope b, hok, hsc, E, L, env, m, Q, h, ρ, I, a, w, hr, he, hs, hd, hK => by
    simp only [codeOk] at hok
    simp only [W] at h
    have hsc1 : sc = true := by simpa [noSc] using hsc
    refine hX.scope hsc1 (hX.mono (W_soundX hX b hok (by rw [hsc1]; rfl) _ _ _ _ _ h ρ I a w hr he hs hd hK) ?_)
    rintro e a1 w1 hc
    cases e with
    | goto l =>
      obtain ⟨ex, _, _, _, _, _, q2, _⟩ := hc
      cases ex <;> first | (cases q2; done) | (obtain ⟨_, q2, _⟩ := q2; cases q2)
    | _ => exact hc
  | .rangeFunc _ _ _ _, hok, hsc, _, _, _, _, _, _, _, _, _, _, _, _, _, _, _ => by simp [codeOk] at hok
  | .goto _, hok, hsc, _, _, _, _, _, _, _, _, _, _, _, _, _, _, _ => by simp [codeOk] at hok
  | .refuse _, hok, hsc, _, _, _, _, _, _, _, _, _, _, _, _, _, _, _ => by simp [codeOk] at hok
theorem W_sound (hfol : P.follows .mixedOrders = true) (c : Code) (hok : codeOk nt c = true) : ∀ (E : Nat → List Nat) (L : List Nat) (env : Env) (m : Mem) (Q : Ex → Env → Mem → Prop), W P K0 R c E L env m Q →
    ∀ (ρ : Pl) (I : Nat → Prop) (a : Act) (w : World), Rep ρ I m w → REnv m.length ρ I w env a → a.tmps.size = nt → a.defers = ds → K0 ≤ m.length → c.wp P (Came2 K0 nt ds ρ I m w Q) a w :=
  W_soundX (walk_wp hfol) c hok rfl
def resOne (P : Program) (env : Env) (m : Mem) : ResultVar → Option V
  | .tmp t => some (env t)
  | .cell a t => loadV P m t (env a)
def resV (P : Program) (fn : Func) (env : Env) (m : Mem) : Option V :=
  match fn.results.toList.mapM (resOne P env m) with
  | some [v] => some v
  | some l => some (.tup l)
  | none => none
theorem resOne_sound {ρ : Pl} {I : Nat → Prop} {m : Mem} {w : World} {env : Env} {a : Act} (hr : Rep ρ I m w) (he : REnv m.length ρ I w env a) {x : ResultVar} {v : V} (h : resOne P env m x = some v) :
    ∃ y, (match x with | .tmp t => pure (a.tmps.getD t undef) | .cell b t => do loadVar t (← asAddr (a.tmps.getD b undef)) : Sem Value).run P w = .ok y w ∧ RV m.length ρ I w v y := by
  cases x with
  | tmp t => simp only [resOne, Option.some.injEq] at h; subst h; exact ⟨_, rfl, he t⟩
  | cell b t =>
    simp only [resOne] at h
    unfold loadV at h
    split at h
    · rename_i l off hc
      obtain ⟨bk, o, c, ty, fr, h1, h2, h3⟩ := cellsAt_sound hr (he b) hc
      obtain ⟨y, h4, h5⟩ := loadVar_sound h2 h3 h
      exact ⟨y, by simp only [h1, asAddr, Sem.run_bind, Sem.run_pure, Result.andThen_ok, h4], h5⟩
    · cases h
theorem results_list {ρ : Pl} {I : Nat → Prop} {m : Mem} {w : World} {env : Env} {a : Act} (hr : Rep ρ I m w) (he : REnv m.length ρ I w env a) : ∀ (rs : List ResultVar) (l : List V), rs.mapM (resOne P env m) = some l →
    ∃ ys : List Value, (rs.mapM fun x => (match x with | .tmp t => pure (a.tmps.getD t undef) | .cell b t => do loadVar t (← asAddr (a.tmps.getD b undef)) : Sem Value)).run P w = .ok ys w ∧ ys.length = l.length ∧ Rt m.length ρ I w l ys.toArray 0
  | [], l, h => by
    simp at h; subst h
    exact ⟨[], by simp, rfl, by simp [Rt]⟩
  | x :: rs, l, h => by
    rw [List.mapM_cons] at h
    simp only [bind, Option.bind_eq_some_iff, pure, Option.some.injEq] at h
    obtain ⟨v, h1, l', h2, rfl⟩ := h
    obtain ⟨y, k1, k2⟩ := resOne_sound hr he h1
    obtain ⟨ys, k3, k4, k5⟩ := results_list hr he rs l' h2
    refine ⟨y :: ys, ?_, by simp [k4], ?_⟩
    · rw [List.mapM_cons, Sem.run_bind, k1]
      simp only [Result.andThen_ok, Sem.run_bind, k3, Sem.run_pure]
    · refine Rt.mk fun i u hu => ?_
      cases i with
      | zero => simp at hu; subst hu; exact ⟨y, by simp, k2⟩
      | succ i =>
        obtain ⟨z, z1, z2⟩ := k5.get i u (by simpa using hu)
        exact ⟨z, by simpa using z1, z2⟩
theorem results_sound {ρ : Pl} {I : Nat → Prop} {m : Mem} {w : World} {env : Env} {a : Act} {fn : Func} {v : V} (hr : Rep ρ I m w) (he : REnv m.length ρ I w env a) (h : resV P fn env m = some v) :
    ∃ y, (results fn a.tmps).run P w = .ok y w ∧ RV m.length ρ I w v y := by
  unfold resV at h
  cases hl : fn.results.toList.mapM (resOne P env m) with
  | none => rw [hl] at h; cases h
  | some l =>
    rw [hl] at h
    obtain ⟨ys, k1, k2, k3⟩ := results_list hr he _ _ hl
    have hrun : (results fn a.tmps).run P w = .ok (if h : ys.toArray.size = 1 then ys.toArray[0] else .tuple ys.toArray) w := by
      unfold results
      rw [Array.mapM_eq_mapM_toList]
      simp only [Sem.run_bind, Sem.run_map, Sem.run_pure]
      erw [k1]
      rfl
    have many : l.length ≠ 1 → v = .tup l → ∃ y, (results fn a.tmps).run P w = .ok y w ∧ RV m.length ρ I w v y := by
      intro hn hv
      refine ⟨_, hrun, ?_⟩
      rw [dif_neg (by simpa [k2] using hn), hv]
      simp only [RV]
      exact ⟨_, rfl, by simp [k2], k3⟩
    cases l with
    | nil => exact many (by simp) (by simpa using h.symm)
    | cons u r =>
      cases r with
      | cons u2 r => exact many (by simp) (by simpa using h.symm)
      | nil =>
        simp only [Option.some.injEq] at h
        subst h
        refine ⟨_, hrun, ?_⟩
        have h1 : ys.toArray.size = 1 := by simpa using k2
        rw [dif_pos h1]
        obtain ⟨z, z1, z2⟩ := k3.get 0 u rfl
        rw [Nat.zero_add, Array.getElem?_eq_getElem (by omega)] at z1
        cases z1
        exact z2
def argEnv (vs : List V) : Env := fun t => vs.getD t .unk
/-- What a function's code must come to. -/
def endQ (P : Program) (fn : Func) (Q : CR → Prop) (ex : Ex) (env : Env) (m : Mem) : Prop :=
  match ex with
  | .pan v => Q (.pan v m)
  | .exit _ => False
  | _ => ∃ v, resV P fn env m = some v ∧ Q (.ret v m)
theorem Snd_of_W {f : FuncId} {fn : Func} {c : Code} (hfol : P.follows .mixedOrders = true) (hf : P.funcs[f]? = some fn) (hb : fn.body = some c) (hok : codeOk fn.ntmps c = true) {vs : List V} {m : Mem} {Q : CR → Prop} (hlen : Nat.ble vs.length fn.ntmps = true)
    (h : W P m.length (resT fn) c (fun _ => []) [] (argEnv vs) m (endQ P fn Q)) : Snd P f vs m Q := by
  intro ρ I w xs hr hl hrt
  refine calls_of_wp hf hb ?_
  have hsz : (xs ++ Array.replicate (fn.ntmps - xs.size) undef).size = fn.ntmps := by
    rw [Nat.ble_eq] at hlen
    simp; omega
  have he : REnv m.length ρ I w (argEnv vs) { tmps := xs ++ Array.replicate (fn.ntmps - xs.size) undef, defers := [] } := by
    intro t
    unfold argEnv
    cases hv : vs[t]? with
    | none => simp [List.getD, hv, RV]
    | some v =>
      obtain ⟨x, h1, h2⟩ := hrt.get t v hv
      have hx : t < xs.size := by
        have := (List.getElem?_eq_some_iff.1 hv).1
        omega
      simp only [List.getD, hv, Option.getD_some]
      have : (xs ++ Array.replicate (fn.ntmps - xs.size) undef).getD t undef = x := by
        rw [Nat.zero_add] at h1
        simp [Array.getElem?_append_left hx, h1]
      rw [this]
      exact h2
  refine wp_mono (W_sound (ds := []) hfol c hok _ _ _ _ _ h ρ I _ w hr he hsz rfl (Nat.le_refl _)) ?_
  rintro e a' w' ⟨ex, env', m', ρ', I', q1, q2, q3, q4, q5, q6, q7⟩
  have fin : (∀ v, ex ≠ .pan v) → (∃ v, resV P fn env' m' = some v ∧ Q (.ret v m')) → a'.defers = [] ∧ ∃ v, (results fn a'.tmps).run P w' = .ok v w' ∧ ∃ r, Q r ∧ Post ρ I m w r (.returned v) w' := by
    rintro hp ⟨v, k1, k2⟩
    obtain ⟨y, y1, y2⟩ := results_sound q3 q4 k1
    exact ⟨q6, y, y1, _, k2, y, ρ', I', rfl, q3, q7.step, y2⟩
  cases ex with
  | nrm => cases q2; exact fin (by simp) q1
  | ret => cases q2; exact fin (by simp) q1
  | exit i => exact q1.elim
  | pan v =>
    obtain ⟨x, rfl, q2⟩ := q2
    exact ⟨q6, _, q1, x, ρ', I', rfl, q3, q7.step, q2⟩
/-- A loop, by what holds at each round's head. -/
theorem W_loop {α : Type} (st : α → Env × Mem) (Inv : α → Prop) (μ : α → Nat) {b : Code} {E : Nat → List Nat} {L : List Nat} {env : Env} {m : Mem} {Q : Ex → Env → Mem → Prop} (x0 : α) (h0 : canon K0 (lv R b E []) env m = some (st x0)) (hI : Inv x0)
    (step : ∀ x, Inv x → W P K0 R b E (lv R b E []) (st x).1 (st x).2 fun ex e m => match ex with
      | .nrm => ∃ y, canon K0 (lv R b E []) e m = some (st y) ∧ Inv y ∧ μ y < μ x
      | _ => Q ex e m) : W P K0 R (.loop b) E L env m Q := by
  simp only [W]
  have key : ∀ (n : Nat) (x : α) (env : Env) (m : Mem), μ x < n → Inv x → canon K0 (lv R b E []) env m = some (st x) → iterW K0 (lv R b E []) (fun env m Q => W P K0 R b E (lv R b E []) env m Q) n env m Q := by
    intro n
    induction n with
    | zero => intro x _ _ h; omega
    | succ n ih =>
      intro x env m hx hix hc
      refine ⟨(st x).1, (st x).2, .inl hc, W_mono b E _ _ _ _ _ (fun ex e m h => ?_) (step x hix)⟩
      cases ex with
      | nrm =>
        obtain ⟨y, y1, y2, y3⟩ := h
        exact ih y e m (by omega) y2 y1
      | _ => exact h
  exact ⟨μ x0 + 1, key _ x0 env m (by omega) hI h0⟩
/-- A loop, by what holds of slots and memory at each round's head; memory is left as it is. -/
theorem W_loopM {α : Type} (st : α → List (Nat × V)) (Inv : α → Mem → Prop) (μ : α → Nat) {b : Code} {E : Nat → List Nat} {L : List Nat} {env : Env} {m : Mem} {Q : Ex → Env → Mem → Prop} (x0 : α) (h0 : (lv R b E []).map (fun t => (t, env t)) = st x0) (hI : Inv x0 m)
    (step : ∀ x m, Inv x m → W P K0 R b E (lv R b E []) (mkEnv (st x)) m fun ex e m => match ex with
      | .nrm => ∃ y, (lv R b E []).map (fun t => (t, e t)) = st y ∧ Inv y m ∧ μ y < μ x
      | _ => Q ex e m) : W P K0 R (.loop b) E L env m Q := by
  simp only [W]
  have key : ∀ (n : Nat) (x : α) (env : Env) (m : Mem), μ x < n → Inv x m → (lv R b E []).map (fun t => (t, env t)) = st x → iterW K0 (lv R b E []) (fun env m Q => W P K0 R b E (lv R b E []) env m Q) n env m Q := by
    intro n
    induction n with
    | zero => intro x _ _ h; omega
    | succ n ih =>
      intro x env m hx hix hc
      refine ⟨mkEnv (st x), m, .inr ⟨by rw [← hc], rfl⟩, W_mono b E _ _ _ _ _ (fun ex e m h => ?_) (step x m hix)⟩
      cases ex with
      | nrm =>
        obtain ⟨y, y1, y2, y3⟩ := h
        exact ih y e m (by omega) y2 y1
      | _ => exact h
  exact ⟨μ x0 + 1, key _ x0 env m (by omega) hI h0⟩
end
end Go.Proofs.Ytjjenpdjmcmgbaa.Ab
namespace Go.Proofs.Ytjjenpdjmcmgbaa.Ab
open Go
set_option linter.unusedSimpArgs false
set_option linter.unusedVariables false
section
variable {P : Program}
/-- In which mode a deferred call finds the frame below. -/
def ModeR (N : Nat) (ρ : Pl) (I : Nat → Prop) (w : World) (pv : Option V) (u : FrameMode) : Prop := match pv with
  | none => u = .returning
  | some v => ∃ x, u = .panicking [{ v := x, recovered := false }] ∧ RV N ρ I w v x
/-- A contract of a deferred closure: whatever it finds, the frame below returns behind it. -/
def SndD (P : Program) (g : FuncId) (vs : List V) (m : Mem) (pv : Option V) (Q : Mem → Prop) : Prop :=
  ∀ (ρ : Pl) (I : Nat → Prop) (w : World) (xs : Array Value) (u : FrameMode), Rep ρ I m w → vs.length = xs.size → Rt m.length ρ I w vs xs 0 → ModeR m.length ρ I w pv u →
    CallsD P g xs u w fun e u' w' => ∃ y m' ρ' I', e = .returned y ∧ settle u' = .returning ∧ Q m' ∧ Rep ρ' I' m' w' ∧ Step ρ I m w ρ' I' m' w'
theorem argEnv_sound {vs : List V} {m : Mem} {ρ : Pl} {I : Nat → Prop} {w : World} {xs : Array Value} {n : Nat} (hl : vs.length = xs.size) (hrt : Rt m.length ρ I w vs xs 0) : REnv m.length ρ I w (argEnv vs) { tmps := xs ++ Array.replicate n undef, defers := [] } := by
  intro t
  unfold argEnv
  cases hv : vs[t]? with
  | none => simp [List.getD, hv, RV]
  | some v =>
    obtain ⟨x, h1, h2⟩ := hrt.get t v hv
    have hx : t < xs.size := by
      have := (List.getElem?_eq_some_iff.1 hv).1
      omega
    simp only [List.getD, hv, Option.getD_some]
    have : (xs ++ Array.replicate n undef).getD t undef = x := by
      rw [Nat.zero_add] at h1
      simp [Array.getElem?_append_left hx, h1]
    rw [this]
    exact h2
section
variable {ops : Array Oper} {Q : Exit → Act → List Frame → World → Prop} {a : Act} {cs cs' : List Frame} {w : World} {i : Nat} {rest : List Nat} {o : Oper} {v : Value}
theorem wpOpsS_rec (ho : ops[i]? = some o) (hg : o.guard = none) (hr : (execOp a.eval o).run P w = .ok .recover w) (hrec : recoverD cs = some (v, cs')) (h : wpOpsS P ops Q rest (a.put o.dst v) cs' w) : wpOpsS P ops Q (i :: rest) a cs w := by
  simp only [wpOpsS, ho]
  rw [if_pos (by simp [Region.wanted, hg]), hr]
  simp only [hrec]
  exact h
theorem wpOpsS_no (ho : ops[i]? = some o) (hg : o.guard = none) (hr : (execOp a.eval o).run P w = .ok .recover w) (hrec : recoverD cs = none) (h : wpOpsS P ops Q rest (a.put o.dst .nilIface) cs w) : wpOpsS P ops Q (i :: rest) a cs w := by
  simp only [wpOpsS, ho]
  rw [if_pos (by simp [Region.wanted, hg]), hr]
  simp only [hrec]
  exact h
theorem wpOpsS_val (ho : ops[i]? = some o) (hg : o.guard = none) (hr : (execOp a.eval o).run P w = .ok (.value v) w) (h : wpOpsS P ops Q rest (a.put o.dst v) cs w) : wpOpsS P ops Q (i :: rest) a cs w := by
  simp only [wpOpsS, ho]
  rw [if_pos (by simp [Region.wanted, hg]), hr]
  exact h
end
theorem SndD_of_W {g : FuncId} {fn : Func} {id k j : Nat} {as : Array Operand} {ts : Array TypeId} {t1 t2 : TypeId} {p1 p2 : String} {a1 a2 : Array Edge} {rest : Code} {vs : List V} {m : Mem} {pv : Option V} {Q : Mem → Prop} (hfol : P.follows .mixedOrders = true) (hf : P.funcs[g]? = some fn)
    (hb : fn.body = some (.seq (.region id #[⟨some k, .call { callee := .builtin .recover, args := as, argTypes := ts }, t1, p1, a1, none⟩, ⟨some j, .assign (.tmp k), t2, p2, a2, none⟩] false) rest)) (hok : codeOk fn.ntmps rest = true) (hk : Nat.blt k fn.ntmps = true) (hj : Nat.blt j fn.ntmps = true)
    (hres : fn.results = #[]) (hlen : Nat.ble vs.length fn.ntmps = true) (has : as = #[])
    (h : W P m.length [] rest (fun _ => []) [] (put (put (argEnv vs) (some k) (pv.getD .nili)) (some j) (pv.getD .nili)) m fun ex _ m' => match ex with
      | .pan _ => False
      | .exit _ => False
      | _ => Q m') : SndD P g vs m pv Q := by
  subst has
  intro ρ I w xs u hr hl hrt hu
  refine callsD_of_wpS hf hb fun c₀ cs hcu => ?_
  have hsz : (xs ++ Array.replicate (fn.ntmps - xs.size) undef).size = fn.ntmps := by
    rw [Nat.ble_eq] at hlen
    simp; omega
  have he := argEnv_sound (n := fn.ntmps - xs.size) hl hrt
  rw [Nat.blt_eq] at hk hj
  -- what 'recover' hands back
  have key : ∀ (x : Value) (cs' : List Frame) (u' : FrameMode), RV m.length ρ I w (pv.getD .nili) x → settle u' = .returning → cs' = { c₀ with mode := u' } :: cs →
      rest.wpS P (bodyPostS P fn c₀ cs fun e u' w' => ∃ y m' ρ' I', e = .returned y ∧ settle u' = .returning ∧ Q m' ∧ Rep ρ' I' m' w' ∧ Step ρ I m w ρ' I' m' w')
        (Act.put (Act.put { tmps := xs ++ Array.replicate (fn.ntmps - xs.size) undef, defers := [] } (some k) x) (some j) x) cs' w := by
    intro x cs' u' hx hset hcs
    refine wpS_of_wp ?_
    have e1 := (he.put (d := some k) hx (fun i hi => by cases hi; rw [hsz]; exact hk)).put (d := some j) hx (fun i hi => by cases hi; simp only [Act.put, Array.size_setIfInBounds, hsz]; exact hj)
    refine wp_mono (W_sound (nt := fn.ntmps) (ds := []) hfol rest hok _ _ _ _ _ h ρ I _ w hr e1 (by simp only [Act.put, Array.size_setIfInBounds, hsz]) rfl (Nat.le_refl _)) ?_
    rintro e a' w' ⟨ex, env', m', ρ', I', q1, q2, q3, q4, q5, q6, q7⟩
    have hr0 : (results fn a'.tmps).run P w' = .ok (.tuple #[]) w' := by simp [results, hres]
    cases ex with
    | nrm => cases q2; exact ⟨q6, u', hcs, _, hr0, _, m', ρ', I', rfl, hset, q1, q3, q7.step⟩
    | ret => cases q2; exact ⟨q6, u', hcs, _, hr0, _, m', ρ', I', rfl, hset, q1, q3, q7.step⟩
    | exit i => exact q1.elim
    | pan v => exact q1.elim
  refine wpS_seq (wpS_region ?_)
  have hrg : List.range (#[(⟨some k, .call { callee := .builtin .recover, args := #[], argTypes := ts }, t1, p1, a1, none⟩ : Oper), ⟨some j, .assign (.tmp k), t2, p2, a2, none⟩]).size = [0, 1] := rfl
  rw [hrg]
  have hget : ∀ (x : Value), (Act.put { tmps := xs ++ Array.replicate (fn.ntmps - xs.size) undef, defers := [] } (some k) x).eval (.tmp k) = x := by
    intro x
    have : k < (xs ++ Array.replicate (fn.ntmps - xs.size) undef).size := by rw [hsz]; exact hk
    simp only [Act.put, Act.eval]
    rw [Array.getD, dif_pos (by simpa using this)]
    simp
  have e2 : (execOp (Act.eval { tmps := xs ++ Array.replicate (fn.ntmps - xs.size) undef, defers := [] }) ⟨some k, .call { callee := .builtin .recover, args := #[], argTypes := ts }, t1, p1, a1, none⟩).run P w = .ok .recover w := rfl
  cases pv with
  | none =>
    simp only [ModeR] at hu
    subst hu
    have hrec : recoverD (c₀ :: cs) = none := by simp [recoverD, hcu]
    have := key .nilIface (c₀ :: cs) .returning (by simp [RV]) rfl (by rw [← hcu])
    exact wpOpsS_no (o := ⟨some k, .call { callee := .builtin .recover, args := #[], argTypes := ts }, t1, p1, a1, none⟩) rfl rfl e2 hrec (wpOpsS_val (o := ⟨some j, .assign (.tmp k), t2, p2, a2, none⟩) (v := .nilIface) rfl rfl (by simp only [execOp, Sem.run_pure, hget]) this)
  | some v =>
    obtain ⟨x, rfl, hx⟩ := hu
    have hrec : recoverD (c₀ :: cs) = some (x, { c₀ with mode := .panicking [{ v := x, recovered := true }] } :: cs) := by simp [recoverD, hcu]
    have := key x _ (.panicking [{ v := x, recovered := true }]) hx rfl rfl
    exact wpOpsS_rec (o := ⟨some k, .call { callee := .builtin .recover, args := #[], argTypes := ts }, t1, p1, a1, none⟩) rfl rfl e2 hrec (wpOpsS_val (o := ⟨some j, .assign (.tmp k), t2, p2, a2, none⟩) (v := x) rfl rfl (by simp only [execOp, Sem.run_pure, hget]) this)
/-- What a function with a deferred closure must come to. -/
def endD (P : Program) (fn : Func) (g : FuncId) (cs : List V) (Q : CR → Prop) (ex : Ex) (env : Env) (m : Mem) : Prop :=
  match ex with
  | .exit _ => False
  | .pan v => ∃ Qm, SndD P g cs m (some v) Qm ∧ ∀ m', Qm m' → ∃ r, resV P fn env m' = some r ∧ Q (.ret r m')
  | _ => ∃ Qm, SndD P g cs m none Qm ∧ ∀ m', Qm m' → ∃ r, resV P fn env m' = some r ∧ Q (.ret r m')
theorem Fr.weaken {K K' : Nat} {ρ ρ' : Pl} {I I' : Nat → Prop} {m m' : Mem} {w w' : World} (h : Fr K ρ I m w ρ' I' m' w') (hk : K' ≤ K) : Fr K' ρ I m w ρ' I' m' w' :=
  ⟨Nat.le_trans hk h.len, fun n hn => h.rho n (by omega), fun n hn => h.dead n (by omega), h.iSub, h.iNew, h.own, h.wle, h.frame⟩
theorem Fr.keeps {ρ ρ' : Pl} {I I' : Nat → Prop} {m m' : Mem} {w w' : World} (h : Fr m.length ρ I m w ρ' I' m' w') : Keeps m.length ρ I w m'.length ρ' I' w' := ⟨h.len, h.rho, h.iSub, h.wle.imm, h.wle.cells⟩
theorem wd_core {g : FuncId} {fn gn : Func} {id k : Nat} {caps : List Operand} {ts : Array TypeId} {t1 t2 : TypeId} {p1 p2 : String} {a1 a2 : Array Edge} {rest : Code} (hfol : P.follows .mixedOrders = true)
    (hg : P.funcs[g]? = some gn) (hgb : gn.body.isSome = true) (hgn : (gn.name == "runtime.NumGoroutine") = false)
    (hok : codeOk fn.ntmps rest = true) (hk : k < fn.ntmps) {Q : CR → Prop} {ρ ρ1 : Pl} {I I1 : Nat → Prop} {m m1 : Mem} {w w1 : World} {env1 : Env} {A1 : Act}
    (q1 : W P m1.length (resT fn) rest (fun _ => []) [] (put env1 (some k) (.fn g [] (caps.map (evO env1)))) m1 (endD P fn g (caps.map (evO env1)) Q))
    (q3 : Rep ρ1 I1 m1 w1) (q4 : REnv m1.length ρ1 I1 w1 env1 A1) (q5 : A1.tmps.size = fn.ntmps) (q6 : A1.defers = []) (q7 : Fr m.length ρ I m w ρ1 I1 m1 w1) :
    (Code.seq (.region id #[⟨some k, .makeFunc (.func g) #[] caps.toArray, t1, p1, a1, none⟩, ⟨none, .defer { callee := .value (.tmp k), args := #[], argTypes := ts }, t2, p2, a2, none⟩] false) rest).wp P
      (bodyPostD P fn fun e w' => ∃ r, Q r ∧ Post ρ I m w r e w') A1 w1 := by
  refine wp_seq (wp_region_list ?_)
  have hw0 : ∀ (ops : Array Oper) (tm : Array Value) (o : Oper), o.guard = none → Region.wanted o (yielded ops tm) = true := fun ops tm o ho => by simp [Region.wanted, ho]
  obtain ⟨c1, c2⟩ := Rt_map (ρ := ρ1) (I := I1) (w := w1) (fun x => q4.evO x) caps.toArray
  refine wpList_step fun K' hK' => ?_
  rw [if_pos (hw0 _ _ _ rfl)]
  unfold Oper.wp
  have x1 : ∀ (tt : TypeId) (pp : String) (aa : Array Edge), (execOp A1.eval ⟨some k, .makeFunc (.func g) #[] caps.toArray, tt, pp, aa, none⟩).run P w1 = .ok (.value (.func (.func g) #[] (caps.toArray.map A1.eval))) w1 := fun _ _ _ => by simp [execOp, Instr.makeFunc]
  have c1' : (caps.map (evO env1)).length = (caps.toArray.map A1.eval).size := by simp
  have c2'' : Rt m1.length ρ1 I1 w1 (caps.map (evO env1)) (caps.toArray.map A1.eval) 0 := by simpa using c2
  clear c1 c2
  generalize caps.toArray.map A1.eval = cv at x1 c1' c2''
  rw [x1]
  simp only [Oper.upon]
  refine hK' _ _ ?_
  refine wpList_step fun K2 hK2 => ?_
  rw [if_pos (hw0 _ _ _ rfl)]
  unfold Oper.wp
  have hget : (Act.put A1 (some k) (.func (.func g) #[] cv)).eval (.tmp k) = .func (.func g) #[] cv := by
    simp only [Act.put, Act.eval]
    rw [Array.getD, dif_pos (by simpa [q5] using hk)]
    simp
  have x2 : ∀ (tt : TypeId) (pp : String) (aa : Array Edge), (execOp (Act.put A1 (some k) (.func (.func g) #[] cv)).eval ⟨none, .defer { callee := .value (.tmp k), args := #[], argTypes := ts }, tt, pp, aa, none⟩).run P w1 = .ok (.defer { target := .fn (.func g) cv, args := #[] }) w1 := fun _ _ _ => by
    simp [execOp, resolve, hget, Deferred.ofValue]
  rw [x2]
  simp only [Oper.upon]
  refine hK2 _ _ (wpList_nil ?_)
  simp only [Exit.then]
  have e1 := q4.put (d := some k) (v := .fn g [] (caps.map (evO env1))) (x := .func (.func g) #[] cv) (by simp only [RV]; exact ⟨_, _, rfl, rfl, by simp [Rt], c1', c2''⟩) (fun i hi => by cases hi; rw [q5]; exact hk)
  refine wp_mono (W_sound (nt := fn.ntmps) (ds := [{ target := .fn (.func g) cv, args := #[] }]) hfol rest hok _ _ _ _ _ q1 ρ1 I1 _ w1 q3 (fun t => e1 t) (by simp only [Act.put, Array.size_setIfInBounds, q5]) (by simp only [Act.put, q6]) (Nat.le_refl _)) ?_
  rintro e a2 w2 ⟨ex, env2, m2, ρ2, I2, s1, s2, s3, s4, s5, s6, s7⟩
  have hcs : Rt m2.length ρ2 I2 w2 (caps.map (evO env1)) cv 0 := Rt.mk fun i v hv => by
    obtain ⟨x, k1, k2⟩ := c2''.get i v hv
    exact ⟨x, k1, RV.keep s7.keeps _ _ k2⟩
  have hclen := c1'
  have hinv : (invoke (.fn (.func g) cv) #[]).run P w2 = .ok (.enter g cv) w2 := by
    have hb' : ¬ gn.body = none := fun e => by simp [e] at hgb
    have hn' : ¬ (gn.name = "runtime.NumGoroutine") := by simpa using hgn
    simp [invoke, callFunc, hg, hb', hn']
  have hle := q7.len
  have fin : ∀ (pv : Option V) (u : FrameMode), u ≠ .run → ModeR m2.length ρ2 I2 w2 pv u → (∃ Qm, SndD P g (caps.map (evO env1)) m2 pv Qm ∧ ∀ m', Qm m' → ∃ r, resV P fn env2 m' = some r ∧ Q (.ret r m')) →
      Leaves P fn a2.tmps (fun e w' => ∃ r, Q r ∧ Post ρ I m w r e w') a2.defers u w2 := by
    rintro pv u hur hu ⟨Qm, hS, hQ⟩
    rw [s6]
    refine leaves_cons hur hinv ((hS ρ2 I2 w2 _ u s3 hclen hcs hu).mono ?_)
    rintro e u' w' ⟨y, m', ρ', I', rfl, hset, hq, t1, t2⟩
    simp only [hset]
    obtain ⟨r, r1, r2⟩ := hQ m' hq
    obtain ⟨z, z1, z2⟩ := results_sound t1 (s4.keep t2.keeps) r1
    exact ⟨z, z1, _, r2, z, ρ', I', rfl, t1, (q7.trans ((s7.weaken hle).trans (t2.fr (K := m.length) (Nat.le_trans hle s7.len)))).step, z2⟩
  cases ex with
  | nrm => cases s2; exact fin none .returning (by simp) rfl s1
  | ret => cases s2; exact fin none .returning (by simp) rfl s1
  | exit i => exact s1.elim
  | pan v =>
    obtain ⟨x, rfl, s2⟩ := s2
    exact fin (some v) _ (by simp) ⟨x, rfl, s2⟩ s1
theorem Snd_of_WD {f g : FuncId} {fn gn : Func} {id k : Nat} {caps : List Operand} {ts : Array TypeId} {t1 t2 : TypeId} {p1 p2 : String} {a1 a2 : Array Edge} {r0 rest : Code} (hfol : P.follows .mixedOrders = true) (hf : P.funcs[f]? = some fn)
    (hb : fn.body = some (.seq r0 (.seq (.region id #[⟨some k, .makeFunc (.func g) #[] caps.toArray, t1, p1, a1, none⟩, ⟨none, .defer { callee := .value (.tmp k), args := #[], argTypes := ts }, t2, p2, a2, none⟩] false) rest)))
    (hg : P.funcs[g]? = some gn) (hgb : gn.body.isSome = true) (hgn : (gn.name == "runtime.NumGoroutine") = false)
    (hok0 : codeOk fn.ntmps r0 = true) (hok : codeOk fn.ntmps rest = true) (hk : Nat.blt k fn.ntmps = true) {vs : List V} {m : Mem} {Q : CR → Prop} (hlen : Nat.ble vs.length fn.ntmps = true)
    (h : W P m.length [] r0 (fun _ => []) [] (argEnv vs) m fun ex env m1 => match ex with
      | .nrm => W P m1.length (resT fn) rest (fun _ => []) [] (put env (some k) (.fn g [] (caps.map (evO env)))) m1 (endD P fn g (caps.map (evO env)) Q)
      | _ => False) : Snd P f vs m Q := by
  intro ρ I w xs hr hl hrt
  refine calls_of_wp_defers hf hb ?_
  have hsz : (xs ++ Array.replicate (fn.ntmps - xs.size) undef).size = fn.ntmps := by
    rw [Nat.ble_eq] at hlen
    simp; omega
  have he := argEnv_sound (n := fn.ntmps - xs.size) hl hrt
  rw [Nat.blt_eq] at hk
  refine wp_seq (wp_mono (W_sound (ds := []) hfol r0 hok0 _ _ _ _ _ h ρ I _ w hr he hsz rfl (Nat.le_refl _)) ?_)
  rintro e a1 w1 ⟨ex, env1, m1, ρ1, I1, q1, q2, q3, q4, q5, q6, q7⟩
  cases ex with
  | exit i => exact q1.elim
  | ret => exact q1.elim
  | pan v => exact q1.elim
  | nrm =>
    cases q2
    simp only [Exit.then]
    exact wd_core hfol hg hgb hgn hok hk q1 q3 q4 q5 q6 q7
end
end Go.Proofs.Ytjjenpdjmcmgbaa.Ab
