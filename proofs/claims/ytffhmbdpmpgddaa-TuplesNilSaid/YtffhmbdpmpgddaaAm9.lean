/- Answers told with their rows lent; calls on rows of flat memory. No condition. The evaluator, run: what is closed is shown by running it. No condition. -/
import Derived.Test.YtffhmbdpmpgddaaAm8
namespace Go.Proofs.Ytffhmbdpmpgddaa.Ab
open Go
set_option linter.unusedSimpArgs false
set_option linter.unusedVariables false

/-- An answer whose rows are told as rows that are not written again. -/
def lendT (m : Mem) : V → V
  | .tup l => .tup (l.map (lendV m))
  | v => lendV m v

theorem lend_any {N : Nat} {ρ : Pl} {I : Nat → Prop} {m : Mem} {w : World} (hr : Rep ρ I m w) {v : V} {x : Value} (hx : RV m.length ρ I w v x) (hn : nf (lendT m v) = true) :
    RV N ρ (fun b => I b ∨ Own ρ m b) w (lendT m v) x := by
  cases v with
  | tup l =>
    simp only [lendT, nf] at hn ⊢
    simp only [RV] at hx
    obtain ⟨c, h1, h2, h3⟩ := hx
    have h4 := lend_Rt hr h3 hn
    have : RV 0 (fun _ => (0, 0)) (fun b => I b ∨ Own ρ m b) w (.tup (l.map (lendV m))) x := by
      simp only [RV]
      exact ⟨c, h1, by simpa using h2, h4⟩
    exact RV_nf _ x (by simpa [nf] using hn) this
  | _ => exact RV_nf _ x hn (lend_RV hr hx hn)

theorem ans_lend {P : Program} {f : FuncId} {vs : List V} {v : V} (h : Snd P f vs [] fun r => ∃ m1 v0, r = .ret v0 m1 ∧ lendT m1 v0 = v) (hv : nf v = true) : Ans P f vs v := by
  intro ρ I w xs hr hl hrt
  refine (h ρ I w xs hr hl hrt).mono ?_
  rintro e w' ⟨r, ⟨m1, v0, rfl, rfl⟩, x, ρ', I', rfl, k1, k2, k3⟩
  have k3' : RV m1.length ρ' I' w' v0 x := k3
  have k1 : Rep ρ' I' m1 w' := k1
  have noOwn : ∀ b, ¬ Own ρ ([] : Mem) b := by rintro b ⟨n, hn, _⟩; simp [live] at hn
  have deadL : ∀ n, ¬ live (m1.map fun _ => B.dead) n := by
    rintro n ⟨b, hb, hl⟩
    rw [List.getElem?_map] at hb
    cases hm : m1[n]? with
    | none => rw [hm] at hb; cases hb
    | some c => rw [hm] at hb; cases hb; cases hl
  have new : ∀ b, Own ρ' m1 b → w.heap.size ≤ b := by
    intro b hb
    rcases k2.own b hb with h | h
    · exact h
    · exact absurd h (noOwn _)
  refine ⟨.ret (lendT m1 v0) (m1.map fun _ => B.dead), ⟨_, rfl⟩, x, ρ', fun b => I' b ∨ Own ρ' m1 b, rfl, ⟨?_, fun n hn => absurd hn (deadL n), fun n _ hn => absurd hn (deadL n), ?_⟩, ?_, ?_⟩
  · intro n b hb
    have : ∀ b, (m1.map fun _ => B.dead)[n]? = some b → b = .dead := by
      intro b hb
      rw [List.getElem?_map] at hb
      cases hm : m1[n]? with
      | none => rw [hm] at hb; cases hb
      | some c => rw [hm] at hb; cases hb; rfl
    rw [this b hb]
    trivial
  · rintro b (hb | hb)
    · exact k1.ilt b hb
    · exact own_lt k1 hb
  · refine ⟨by simp, fun n hn => by simp at hn, fun n hn => by simp at hn, fun b hb => .inl (k2.iSub b hb), ?_, fun b ⟨n, hn, _⟩ => absurd hn (deadL n), k2.wle, k2.frame⟩
    rintro b (hb | hb)
    · exact k2.iNew b hb
    · exact .inr (.inl (new b hb))
  · exact lend_any k1 k3' hv

/-! ### Calls in flat memory -/
theorem reach_flat1 {m : Mem} (hm : nfM m = true) (k n : Nat) : reach m (k + 2) [n] [] = [n] := by
  have h := nmsB_flat (nfM_at hm n)
  have h2 : reach m (k + 1) [] [n] = [n] := rfl
  simp only [reach, List.contains_nil, cond_false, List.nil_append, h, h2]
theorem roots_flat1 {m : Mem} (hm : nfM m = true) {n s o len : Nat} {r : List V} (hr : nfs r = true) : rootsV m (.sl s n o len :: r) = [n] := by
  unfold rootsV
  simp only [nmss, nms, nfs_nmss r hr, List.append_nil]
  exact reach_flat1 hm 1998 n
theorem flat_ren (τ : Nat → Nat) : ∀ {l : Mem}, nfM l = true → l.map (renB τ) = l
  | [], _ => rfl
  | b :: r, h => by
    simp only [nfM, Bool.and_eq_true] at h
    rw [List.map_cons, flat_ren τ h.2, nfB_renB _ h.1]
theorem nfM_get {m : Mem} (hm : nfM m = true) {n : Nat} {b : B} (h : m[n]? = some b) : nfB b = true := by
  have := nfM_at hm n
  rw [List.getD, h] at this
  exact this
theorem nfM_app : ∀ {a b : Mem}, nfM a = true → nfM b = true → nfM (a ++ b) = true
  | [], _, _, h => h
  | c :: r, b, h, h2 => by
    simp only [nfM, Bool.and_eq_true] at h
    exact nfM_cons h.1 (nfM_app h.2 h2)
theorem nfM_set : ∀ {a : Mem} {n : Nat} {b : B}, nfM a = true → nfB b = true → nfM (a.set n b) = true
  | [], _, _, h, _ => h
  | c :: r, 0, b, h, h2 => by
    simp only [nfM, Bool.and_eq_true] at h
    exact nfM_cons h2 h.2
  | c :: r, n + 1, b, h, h2 => by
    simp only [nfM, Bool.and_eq_true] at h
    exact nfM_cons h.1 (nfM_set h.2 h2)

section
variable {P : Program} {f : FuncId} {m m1 : Mem} {s n len : Nat} {r : List V} {b b1 : B} {v : V}

theorem sl1_parts (hm : nfM m = true) (hn : m[n]? = some b) (hr : nfs r = true) :
    okCall [n] m (.sl s n 0 len :: r) = true ∧ rens (idx [n]) (.sl s n 0 len :: r) = .sl s 0 0 len :: r ∧ view [n] m = [b] := by
  have hlt : n < m.length := (List.getElem?_eq_some_iff.1 hn).1
  refine ⟨?_, ?_, ?_⟩
  · unfold okCall
    rw [closed_flat hm (by simp [nodupB, hlt])]
    simp [inDs, inD, nfs_inDs _ r hr]
  · simp [rens, ren, idx, rens_nf _ _ hr]
  · rw [view_flat hm]
    simp [List.getD, hn]
theorem sl1_merge (hm1 : nfM (b1 :: m1) = true) : merge [n] m (b1 :: m1) = m.set n b1 ++ m1 := by
  unfold merge
  rw [flat_ren _ (show nfM ((b1 :: m1).take [n].length) = true from by simp only [nfM, Bool.and_eq_true] at hm1; simp [nfM, hm1.1]), flat_ren _ (show nfM ((b1 :: m1).drop [n].length) = true from by simp only [nfM, Bool.and_eq_true] at hm1; simp [nfM, hm1.2])]
  rfl
/-- A call whose first argument is a row, and that hands back a value with names. -/
theorem callD_sl {K Kp : V → Mem → Prop} (h : Snd P f (.sl s 0 0 len :: r) [b] fun q => q = .ret v (b1 :: m1)) (he : enterable P f = true) (hm : nfM m = true) (hm1 : nfM (b1 :: m1) = true) (hn : m[n]? = some b) (hr : nfs r = true) (hd : inD (fun _ => true) v = true)
    (hk : K (ren (back [n] m.length) v) (m.set n b1 ++ m1)) : callD P f (.sl s n 0 len :: r) m K Kp := by
  obtain ⟨p1, p2, p3⟩ := sl1_parts (s := s) (len := len) hm hn hr
  unfold callD
  rw [roots_flat1 hm hr, p2, p3]
  refine ⟨p1, he, _, h, ?_⟩
  rintro q rfl
  refine ⟨?_, ?_⟩
  · simp only [okRes, CR.val, CR.mem, okBack, hd, all_inDB hm1]
    simp
  · simp only [backV, List.isEmpty_cons, Bool.false_and, cond_false, sl1_merge hm1]
    exact hk
theorem callE_sl {K0 : V → Prop} {K1 : V → Mem → List Nat → Prop} (h : Snd P f (.sl s 0 0 len :: r) [b] fun q => q = .ret v (b1 :: m1)) (he : enterable P f = true) (hm : nfM m = true) (hm1 : nfM (b1 :: m1) = true) (hn : m[n]? = some b) (hr : nfs r = true) (hd : inD (fun _ => true) v = true)
    (hk : K1 (ren (back [n] m.length) v) (m.set n b1 ++ m1) [n]) : callE P f (.sl s n 0 len :: r) m K0 K1 := by
  obtain ⟨p1, p2, p3⟩ := sl1_parts (s := s) (len := len) hm hn hr
  refine .inr ?_
  rw [roots_flat1 hm hr, p2, p3]
  refine ⟨p1, he, v, b1 :: m1, h, ?_, rfl, ?_⟩
  · simp only [okBack, hd, all_inDB hm1]
    simp
  · rw [sl1_merge hm1]
    exact hk
/-- A call on values without names whose answer names new memory. -/
theorem callE_new {vs : List V} {K0 : V → Prop} {K1 : V → Mem → List Nat → Prop} (h : Snd P f vs [] fun q => q = .ret v m1) (he : enterable P f = true) (hn : nfs vs = true) (hm1 : nfM m1 = true) (hd : inD (fun _ => true) v = true) (hnv : nf (ren (back [] m.length) v) = false)
    (hk : K1 (ren (back [] m.length) v) (m ++ m1) []) : callE P f vs m K0 K1 := by
  have hroots : rootsV m vs = [] := by unfold rootsV; rw [nfs_nmss vs hn]; rfl
  refine .inr ?_
  rw [hroots, rens_nf _ _ hn]
  refine ⟨by simp [okCall, nfs_inDs _ vs hn, closedB, nodupB], he, v, m1, h, ?_, ?_, ?_⟩
  · simp only [okBack, hd, all_inDB hm1]
    simp
  · rw [hnv]; rfl
  · have : merge [] m m1 = m ++ m1 := by
      unfold merge
      simp only [List.length_nil, List.take_zero, List.map_nil, List.drop_zero, setAll]
      rw [flat_ren _ hm1]
    rw [this]
    exact hk
/-- A call on values without names, told by what its answers may be. -/
theorem callD_newQ {vs : List V} {K Kp : V → Mem → Prop} {Q : CR → Prop} (h : Snd P f vs [] Q) (he : enterable P f = true) (hn : nfs vs = true)
    (hk : ∀ q, Q q → ∃ v m1, q = .ret v m1 ∧ nfM m1 = true ∧ inD (fun _ => true) v = true ∧ nf v = false ∧ K (ren (back [] m.length) v) (m ++ m1)) : callD P f vs m K Kp := by
  have hroots : rootsV m vs = [] := by unfold rootsV; rw [nfs_nmss vs hn]; rfl
  unfold callD
  rw [hroots, rens_nf _ _ hn]
  refine ⟨by simp [okCall, nfs_inDs _ vs hn, closedB, nodupB], he, _, h, ?_⟩
  intro q hq
  obtain ⟨v, m1, rfl, hm1, hd, hnv, hk⟩ := hk q hq
  refine ⟨?_, ?_⟩
  · simp only [okRes, CR.val, CR.mem, okBack, hd, all_inDB hm1]
    simp
  · simp only [backV, hnv, Bool.and_false, cond_false]
    have : merge [] m m1 = m ++ m1 := by
      unfold merge
      simp only [List.length_nil, List.take_zero, List.map_nil, List.drop_zero, setAll]
      rw [flat_ren _ hm1]
    rw [this]
    exact hk
end
end Go.Proofs.Ytffhmbdpmpgddaa.Ab

namespace Go.Proofs.Ytffhmbdpmpgddaa.Ab
open Go
set_option linter.unusedSimpArgs false
set_option linter.unusedVariables false

section
variable (P : Program) (call : FuncId → List V → Mem → Option CR)

inductive Ro where
  | ok (e : Env) (m : Mem)
  | pan (v : V) (m : Mem)

/-- A call: what it hands back, in the caller's memory. -/
def callX (f : FuncId) (vs : List V) (m : Mem) : Option CR :=
  (fun L => bif okCall L m vs && enterable P f then match call f (rens (idx L) vs) (view L m) with
    | some (.ret v m1) => bif okRes L v m1 then some (.ret (backV L m v m1).1 (backV L m v m1).2) else none
    | some (.pan v m1) => bif okRes L v m1 then some (.pan (backV L m v m1).1 (backV L m v m1).2) else none
    | none => none
    else none) (rootsV m vs)

def runX (all : Array Oper) : List Oper → Env → Mem → Option Ro
  | [], env, m => some (.ok env m)
  | o :: r, env, m =>
    match wantD all env o with
    | none => none
    | some false => runX all r (put env o.dst (.tup [])) m
    | some true => match panicV (evO env) o.op with
      | some v => some (.pan v m)
      | none => match calleeV (evO env) o.op with
        | some (f, vs) => match callX P call f vs m with
          | some (.ret v m') => runX all r (put env o.dst v) m'
          | some (.pan v m') => some (.pan v m')
          | none => none
        | none => match execD P (evO env) m o.op with
          | some (.val v m') => runX all r (put env o.dst v) m'
          | some (.skip m') => runX all r (put env o.dst (.tup [])) m'
          | none => none

/-- A step in a region whose order is open. -/
def stepX (o : Oper) (env : Env) (m : Mem) : Option (V × Mem) :=
  match calleeV (evO env) o.op with
  | some (f, vs) => match callX P call f vs m with
    | some (.ret v m') => some (v, m')
    | _ => none
  | none => match execD P (evO env) m o.op with
    | some (.val v m') => some (v, m')
    | some (.skip m') => some (.tup [], m')
    | none => none

def drawX (all : Array Oper) : Nat → List (Nat × Info × Nat) → List Oper → Env → Mem → Option Ro
  | _, _, [], env, m => some (.ok env m)
  | k, acc, o :: r, env, m =>
    match wantD all env o with
    | none => none
    | some false => drawX all (k + 1) acc r (put env o.dst (.tup [])) m
    | some true => match panicV (evO env) o.op with
      | some _ => none
      | none => match stepX P call o env m with
        | none => none
        | some (v, m') => match infoD (evO env) m o.op v with
          | none => none
          | some inf => bif (inf.rd ++ inf.wr).all (fun n => Nat.blt n m.length) && acc.all (fun x => waits all o x.1 || indep x.2.1 x.2.2 inf) then drawX all (k + 1) ((k, inf, m.length) :: acc) r (put env o.dst v) m' else none

def iterX (K0 : Nat) (keep : List Nat) (body : Env → Mem → Option (Ex × Env × Mem)) : Nat → Env → Mem → Option (Ex × Env × Mem)
  | 0, _, _ => none
  | n + 1, env, m => match canon K0 keep env m with
    | none => none
    | some (env', m') => match body env' m' with
      | none => none
      | some (.nrm, e, m2) => iterX K0 keep body n e m2
      | some r => some r

def codeX (fuel : Nat) (K0 : Nat) (R : List Nat) : Code → (Nat → List Nat) → List Nat → Env → Mem → Option (Ex × Env × Mem)
  | .skip, _, _, env, m => some (.nrm, env, m)
  | .label _, _, _, env, m => some (.nrm, env, m)
  | .region _ ops true, _, _, env, m => match drawX P call ops 0 [] ops.toList env m with
    | some (.ok e m') => some (.nrm, e, m')
    | _ => none
  | .region _ ops false, _, _, env, m => match runX P call ops ops.toList env m with
    | some (.ok e m') => some (.nrm, e, m')
    | some (.pan v m') => some (.pan v, wipe ops env, m')
    | none => none
  | .seq a b, E, L, env, m => match codeX fuel K0 R a E (lv R b E L) env m with
    | some (.nrm, e, m') => codeX fuel K0 R b E L e m'
    | r => r
  | .cond c a b, E, L, env, m => match evO env c with
    | .bool true => codeX fuel K0 R a E L env m
    | .bool false => codeX fuel K0 R b E L env m
    | _ => none
  | .block id b, E, L, env, m => match codeX fuel K0 R b (fun i => bif Nat.beq i id then L else E i) L env m with
    | some (.exit i, e, m') => bif Nat.beq i id then some (.nrm, e, m') else some (.exit i, e, m')
    | r => r
  | .loop b, E, _, env, m => iterX K0 (lv R b E []) (fun e m => codeX fuel K0 R b E (lv R b E []) e m) fuel env m
  | .exit id, _, _, env, m => some (.exit id, env, m)
  | .ret, _, _, env, m => some (.ret, env, m)
  | .scope b, E, L, env, m => codeX fuel K0 R b E L env m
  | _, _, _, _, _ => none
end

/-- A function, run. -/
def funX (P : Program) : Nat → FuncId → List V → Mem → Option CR
  | 0, _, _, _ => none
  | n + 1, f, vs, m => match P.funcs[f]? with
    | none => none
    | some fn => match fn.body with
      | none => none
      | some c => bif codeOk fn.ntmps c && Nat.ble vs.length fn.ntmps then match codeX P (funX P n) n m.length (resT fn) c (fun _ => []) [] (argEnv vs) m with
          | some (.nrm, e, m') => (resV P fn e m').map fun v => .ret v m'
          | some (.ret, e, m') => (resV P fn e m').map fun v => .ret v m'
          | some (.pan v, _, m') => some (.pan v m')
          | _ => none
        else none

section
variable {P : Program} {call : FuncId → List V → Mem → Option CR}
def Good (P : Program) (call : FuncId → List V → Mem → Option CR) : Prop := ∀ f vs m r, call f vs m = some r → Snd P f vs m fun q => q = r

theorem callX_sound (hc : Good P call) {f : FuncId} {vs : List V} {m : Mem} {r : CR} (h : callX P call f vs m = some r) : ∃ v m1, okCall (rootsV m vs) m vs = true ∧ enterable P f = true ∧ okRes (rootsV m vs) v m1 = true ∧
    ((r = .ret (backV (rootsV m vs) m v m1).1 (backV (rootsV m vs) m v m1).2 ∧ Snd P f (rens (idx (rootsV m vs)) vs) (view (rootsV m vs) m) fun q => q = .ret v m1) ∨
     (r = .pan (backV (rootsV m vs) m v m1).1 (backV (rootsV m vs) m v m1).2 ∧ Snd P f (rens (idx (rootsV m vs)) vs) (view (rootsV m vs) m) fun q => q = .pan v m1)) := by
  unfold callX at h
  cases h1 : okCall (rootsV m vs) m vs && enterable P f with
  | false => simp only [h1, cond_false] at h; cases h
  | true =>
    simp only [h1, cond_true] at h
    rw [Bool.and_eq_true] at h1
    split at h
    · rename_i v m1 hcall
      cases h2 : okRes (rootsV m vs) v m1 with
      | false => rw [h2] at h; cases h
      | true =>
        rw [h2] at h
        cases h
        exact ⟨v, m1, h1.1, h1.2, h2, .inl ⟨rfl, hc _ _ _ _ hcall⟩⟩
    · rename_i v m1 hcall
      cases h2 : okRes (rootsV m vs) v m1 with
      | false => rw [h2] at h; cases h
      | true =>
        rw [h2] at h
        cases h
        exact ⟨v, m1, h1.1, h1.2, h2, .inr ⟨rfl, hc _ _ _ _ hcall⟩⟩
    · cases h

theorem runX_sound (hc : Good P call) {all : Array Oper} {K : Env → Mem → Prop} {Kp : V → Mem → Prop} : ∀ (l : List Oper) (env : Env) (m : Mem) (r : Ro), runX P call all l env m = some r → (match r with | .ok e m' => K e m' | .pan v m' => Kp v m') → runOps P all l env m K Kp
  | [], env, m, r, h, hk => by
    simp only [runX] at h
    cases h
    exact hk
  | o :: l, env, m, r, h, hk => by
    simp only [runX] at h
    simp only [runOps]
    cases hw : wantD all env o with
    | none => rw [hw] at h; cases h
    | some bw =>
      rw [hw] at h
      cases bw with
      | false => exact runX_sound hc l _ _ r h hk
      | true =>
        simp only at h ⊢
        cases hp : panicV (evO env) o.op with
        | some v =>
          rw [hp] at h
          cases h
          exact hk
        | none =>
          rw [hp] at h
          simp only at h ⊢
          cases hcal : calleeV (evO env) o.op with
          | some q =>
            obtain ⟨f, vs⟩ := q
            rw [hcal] at h
            simp only at h ⊢
            cases hx : callX P call f vs m with
            | none => rw [hx] at h; cases h
            | some r' =>
              rw [hx] at h
              obtain ⟨v1, m1, k1, k2, k3, k4⟩ := callX_sound hc hx
              cases r' with
              | ret v m' =>
                rcases k4 with ⟨k4, k5⟩ | ⟨k4, _⟩
                · cases k4
                  refine ⟨k1, k2, _, k5, ?_⟩
                  rintro q rfl
                  exact ⟨k3, runX_sound hc l _ _ r h hk⟩
                · cases k4
              | pan v m' =>
                cases h
                rcases k4 with ⟨k4, _⟩ | ⟨k4, k5⟩
                · cases k4
                · cases k4
                  refine ⟨k1, k2, _, k5, ?_⟩
                  rintro q rfl
                  exact ⟨k3, hk⟩
          | none =>
            rw [hcal] at h
            simp only at h ⊢
            cases hx : execD P (evO env) m o.op with
            | none => rw [hx] at h; cases h
            | some y =>
              rw [hx] at h
              cases y with
              | val v m' => exact runX_sound hc l _ _ r h hk
              | skip m' => exact runX_sound hc l _ _ r h hk

mutual
theorem nf_ren (τ : Nat → Nat) : ∀ v, nf (ren τ v) = nf v
  | .ptr _ _ => rfl
  | .ep _ _ _ _ => rfl
  | .sl _ _ _ _ => rfl
  | .mp _ => rfl
  | .unk => rfl
  | .ip _ => rfl
  | .isl _ _ => rfl
  | .fn _ a b => by simp only [ren, nf, nfs_rens τ a, nfs_rens τ b]
  | .ifc _ v => by simp only [ren, nf, nf_ren τ v]
  | .agg l => by simp only [ren, nf, nfs_rens τ l]
  | .tup l => by simp only [ren, nf, nfs_rens τ l]
  | .bool _ => rfl
  | .int _ _ => rfl
  | .str _ => rfl
  | .nilp => rfl
  | .nils => rfl
  | .nilm => rfl
  | .nilf => rfl
  | .nili => rfl
theorem nfs_rens (τ : Nat → Nat) : ∀ l, nfs (rens τ l) = nfs l
  | [] => rfl
  | v :: r => by simp only [rens, nfs, nf_ren τ v, nfs_rens τ r]
end
theorem stepX_sound (hc : Good P call) {o : Oper} {env : Env} {m m' : Mem} {v : V} (h : stepX P call o env m = some (v, m')) : StepV P o env m v m' := by
  unfold stepX at h
  unfold StepV
  cases hcal : calleeV (evO env) o.op with
  | some q =>
    obtain ⟨f, vs⟩ := q
    rw [hcal] at h
    simp only at h ⊢
    cases hx : callX P call f vs m with
    | none => rw [hx] at h; cases h
    | some r' =>
      rw [hx] at h
      cases r' with
      | pan _ _ => cases h
      | ret v0 m0 =>
        cases h
        obtain ⟨v1, m1, k1, k2, k3, k4⟩ := callX_sound hc hx
        rcases k4 with ⟨k4, k5⟩ | ⟨k4, _⟩
        · cases k4
          refine ⟨k1, k2, ?_⟩
          cases he : (rootsV m vs).isEmpty && nf v1 with
          | true =>
            rw [Bool.and_eq_true] at he
            have e1 : backV (rootsV m vs) m v1 m1 = (v1, m) := by unfold backV; rw [he.1, he.2]; rfl
            rw [e1]
            exact .inl ⟨he.1, he.2, rfl, k5.mono fun q hq => ⟨m1, hq⟩⟩
          | false =>
            have e1 : backV (rootsV m vs) m v1 m1 = (ren (back (rootsV m vs) m.length) v1, merge (rootsV m vs) m m1) := by unfold backV; rw [he]; rfl
            rw [e1]
            have hok : okBack (rootsV m vs) v1 m1 = true := by
              unfold okRes at k3
              rw [he, Bool.false_or] at k3
              exact k3
            exact .inr ⟨v1, m1, k5, hok, by rw [nf_ren]; exact he, rfl, rfl⟩
        · cases k4
  | none =>
    rw [hcal] at h
    simp only at h ⊢
    cases hx : execD P (evO env) m o.op with
    | none => rw [hx] at h; cases h
    | some y =>
      rw [hx] at h
      cases y with
      | val v m' => cases h; exact ⟨rfl, rfl⟩
      | skip m' => cases h; exact ⟨rfl, rfl⟩

theorem drawX_sound (hc : Good P call) {all : Array Oper} {K : Env → Mem → Prop} : ∀ (l : List Oper) (k : Nat) (acc : List (Nat × Info × Nat)) (env : Env) (m : Mem) (e' : Env) (m' : Mem), drawX P call all k acc l env m = some (.ok e' m') → K e' m' → runDrawn P all K k acc l env m
  | [], k, acc, env, m, e', m', h, hk => by
    simp only [drawX] at h
    cases h
    exact hk
  | o :: l, k, acc, env, m, e', m', h, hk => by
    simp only [drawX] at h
    simp only [runDrawn]
    cases hw : wantD all env o with
    | none => rw [hw] at h; cases h
    | some bw =>
      rw [hw] at h
      cases bw with
      | false => exact drawX_sound hc l _ _ _ _ _ _ h hk
      | true =>
        simp only at h ⊢
        cases hp : panicV (evO env) o.op with
        | some v => rw [hp] at h; cases h
        | none =>
          rw [hp] at h
          simp only at h
          cases hs : stepX P call o env m with
          | none => rw [hs] at h; cases h
          | some y =>
            obtain ⟨v, m1⟩ := y
            rw [hs] at h
            simp only at h
            cases hi : infoD (evO env) m o.op v with
            | none => rw [hi] at h; cases h
            | some inf =>
              rw [hi] at h
              simp only at h
              cases hb : (inf.rd ++ inf.wr).all (fun n => Nat.blt n m.length) && acc.all (fun x => waits all o x.1 || indep x.2.1 x.2.2 inf) with
              | false => rw [hb] at h; cases h
              | true =>
                rw [hb] at h
                simp only [cond_true] at h
                rw [Bool.and_eq_true] at hb
                exact ⟨v, m1, inf, stepX_sound hc hs, ⟨hp, hi, hb.1, hb.2⟩, drawX_sound hc l _ _ _ _ _ _ h hk⟩

theorem iterX_sound {K0 : Nat} {keep : List Nat} {body : Env → Mem → Option (Ex × Env × Mem)} {bodyW : Env → Mem → (Ex → Env → Mem → Prop) → Prop} {Q : Ex → Env → Mem → Prop}
    (hb : ∀ env m r (Q : Ex → Env → Mem → Prop), body env m = some r → Q r.1 r.2.1 r.2.2 → bodyW env m Q) : ∀ (n : Nat) (env : Env) (m : Mem) (r : Ex × Env × Mem), iterX K0 keep body n env m = some r → Q r.1 r.2.1 r.2.2 → iterW K0 keep bodyW n env m Q
  | 0, env, m, r, h, hq => by simp [iterX] at h
  | n + 1, env, m, r, h, hq => by
    simp only [iterX] at h
    split at h
    · cases h
    · rename_i env' m' hcan
      split at h
      · cases h
      · rename_i e m2 hbody
        exact ⟨env', m', hcan, hb _ _ _ _ hbody (iterX_sound hb n e m2 r h hq)⟩
      · rename_i r' hne hbody
        cases h
        refine ⟨env', m', hcan, hb _ _ _ _ hbody ?_⟩
        obtain ⟨ex, e, m2⟩ := r
        cases ex with
        | nrm => exact absurd rfl (hne e m2)
        | _ => exact hq

theorem codeX_sound (hc : Good P call) {fuel K0 : Nat} {R : List Nat} : ∀ (c : Code) (E : Nat → List Nat) (L : List Nat) (env : Env) (m : Mem) (r : Ex × Env × Mem) (Q : Ex → Env → Mem → Prop), codeX P call fuel K0 R c E L env m = some r → Q r.1 r.2.1 r.2.2 → W P K0 R c E L env m Q
  | .skip, E, L, env, m, r, Q, h, hq => by simp only [codeX] at h; cases h; exact hq
  | .label _, E, L, env, m, r, Q, h, hq => by simp only [codeX] at h; cases h; exact hq
  | .exit _, E, L, env, m, r, Q, h, hq => by simp only [codeX] at h; cases h; exact hq
  | .ret, E, L, env, m, r, Q, h, hq => by simp only [codeX] at h; cases h; exact hq
  | .region _ ops true, E, L, env, m, r, Q, h, hq => by
    simp only [codeX] at h
    split at h
    · rename_i e m' hd
      cases h
      exact .inl (drawX_sound hc _ _ _ _ _ _ _ hd hq)
    · cases h
  | .region _ ops false, E, L, env, m, r, Q, h, hq => by
    simp only [codeX] at h
    simp only [W]
    split at h
    · rename_i e m' hd
      cases h
      exact runX_sound hc _ _ _ _ hd hq
    · rename_i v m' hd
      cases h
      exact runX_sound hc _ _ _ _ hd hq
    · cases h
  | .seq a b, E, L, env, m, r, Q, h, hq => by
    simp only [codeX] at h
    simp only [W]
    split at h
    · rename_i e m' ha
      exact codeX_sound hc a E _ env m _ _ ha (codeX_sound hc b E L e m' r Q h hq)
    · rename_i r' hne
      refine codeX_sound hc a E _ env m r _ h ?_
      obtain ⟨ex, e, m2⟩ := r
      cases ex with
      | nrm => exact absurd h (hne e m2)
      | _ => exact hq
  | .cond c a b, E, L, env, m, r, Q, h, hq => by
    simp only [codeX] at h
    simp only [W]
    split at h
    · rename_i hv
      rw [hv]
      exact ⟨fun _ => codeX_sound hc a E L env m r Q h hq, fun e => (by cases e)⟩
    · rename_i hv
      rw [hv]
      exact ⟨fun e => (by cases e), fun _ => codeX_sound hc b E L env m r Q h hq⟩
    · cases h
  | .block id b, E, L, env, m, r, Q, h, hq => by
    simp only [codeX] at h
    simp only [W]
    split at h
    · rename_i i e m' hb
      refine codeX_sound hc b _ L env m _ _ hb ?_
      simp only
      cases hi : Nat.beq i id with
      | true => rw [hi] at h; cases h; exact hq
      | false => rw [hi] at h; cases h; exact hq
    · rename_i r' hne
      refine codeX_sound hc b _ L env m r _ h ?_
      obtain ⟨ex, e, m2⟩ := r
      cases ex with
      | exit i => exact absurd h (hne i e m2)
      | _ => exact hq
  | .loop b, E, L, env, m, r, Q, h, hq => by
    simp only [codeX] at h
    simp only [W]
    exact ⟨fuel, iterX_sound (fun e m r Q h hq => codeX_sound hc b E _ e m r Q h hq) fuel env m r h hq⟩
  | .scope b, E, L, env, m, r, Q, h, hq => by
    simp only [codeX] at h
    simp only [W]
    exact codeX_sound hc b E L env m r Q h hq
  | .rangeFunc _ _ _ _, _, _, _, _, _, _, h, _ => by simp [codeX] at h
  | .goto _, _, _, _, _, _, _, h, _ => by simp [codeX] at h
  | .refuse _, _, _, _, _, _, _, h, _ => by simp [codeX] at h

theorem funX_good (hfol : P.follows .mixedOrders = true) : ∀ n, Good P (funX P n)
  | 0 => fun f vs m r h => by simp [funX] at h
  | n + 1 => fun f vs m r h => by
    simp only [funX] at h
    split at h
    · cases h
    · rename_i fn hf
      split at h
      · cases h
      · rename_i c hb
        cases hok : codeOk fn.ntmps c && Nat.ble vs.length fn.ntmps with
        | false => rw [hok] at h; cases h
        | true =>
          rw [hok] at h
          simp only [cond_true] at h
          rw [Bool.and_eq_true] at hok
          split at h
          · rename_i e m' hx
            rw [Option.map_eq_some_iff] at h
            obtain ⟨v, hv, rfl⟩ := h
            exact Snd_of_W hfol hf hb hok.1 hok.2 (codeX_sound (funX_good hfol n) c _ _ _ _ _ _ hx ⟨v, hv, rfl⟩)
          · rename_i e m' hx
            rw [Option.map_eq_some_iff] at h
            obtain ⟨v, hv, rfl⟩ := h
            exact Snd_of_W hfol hf hb hok.1 hok.2 (codeX_sound (funX_good hfol n) c _ _ _ _ _ _ hx ⟨v, hv, rfl⟩)
          · rename_i v e m' hx
            cases h
            exact Snd_of_W hfol hf hb hok.1 hok.2 (codeX_sound (funX_good hfol n) c _ _ _ _ _ _ hx rfl)
          · cases h

def valX : Option CR → Option V
  | some (.ret v _) => some v
  | _ => none
/-- A call that is closed, run. -/
theorem ans_run (hfol : P.follows .mixedOrders = true) (n : Nat) {f : FuncId} {vs : List V} {v : V} (h : valX (funX P n f vs []) = some v) : Ans P f vs v := by
  cases hx : funX P n f vs [] with
  | none => rw [hx] at h; cases h
  | some r =>
    rw [hx] at h
    cases r with
    | ret v' m' =>
      cases h
      exact (funX_good hfol n f vs [] _ hx).mono fun q hq => ⟨m', hq⟩
    | pan _ _ => cases h
end
end Go.Proofs.Ytffhmbdpmpgddaa.Ab
