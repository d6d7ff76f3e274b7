/- A region whose order is open: the text's order serves every order. No condition. -/
import Derived.Test.YtnhejkfbnjopjaaAbs14
namespace Go.Proofs.Ytnhejkfbnjopjaa.Ab
open Go
set_option linter.unusedSimpArgs false
set_option linter.unusedVariables false

/-- A step of an operation that may not be wanted. -/
def GStep (P : Program) (all : Array Oper) (o : Oper) (inf : Info) (env : Env) (m : Mem) (v : V) (m' : Mem) : Prop :=
  match wantD all env o with
  | none => False
  | some false => v = .tup [] ∧ m' = m ∧ inf = ⟨[], [], false⟩
  | some true => StepV P o env m v m' ∧ panicV (evO env) o.op = none ∧ infoD (evO env) m o.op v = some inf ∧ (inf.rd ++ inf.wr).all (fun n => Nat.blt n m.length) = true

/-- Whatever order is picked from here on, each operation with its own places. -/
def anyA (P : Program) (all : Array Oper) (fps : Nat → Info) (K : Env → Mem → Prop) : Nat → Array Bool → Env → Mem → Prop
  | 0, listed, env, m => Region.ready .any all listed = [] ∧ K env m
  | fuel + 1, listed, env, m => (Region.ready .any all listed = [] → K env m) ∧
    ∀ i ∈ Region.ready .any all listed, ∃ o, all[i]? = some o ∧ ∃ v m', GStep P all o (fps i) env m v m' ∧ anyA P all fps K fuel (listed.setIfInBounds i true) (put env o.dst v) m'

section
variable {P : Program} {all : Array Oper}

theorem put_look {env : Env} {d : Option Nat} {v : V} {t : Nat} (h : ∀ k, d = some k → k ≠ t) : put env d v t = env t := by
  cases d with
  | none => rfl
  | some k =>
    simp only [put, upd]
    cases hb : Nat.beq k t with
    | true => exact absurd (Nat.eq_of_beq_eq_true hb) (h k rfl)
    | false => rfl

theorem put_comm {env : Env} {d e : Option Nat} {u v : V} (h : ∀ k, d = some k → e ≠ some k) : put (put env d u) e v = put (put env e v) d u := by
  funext t
  cases d with
  | none => rfl
  | some k =>
    cases e with
    | none => rfl
    | some j =>
      have hkj : k ≠ j := fun e => h k rfl (by rw [e])
      simp only [put, upd]
      cases h1 : Nat.beq j t <;> cases h2 : Nat.beq k t <;> try rfl
      exact absurd ((Nat.eq_of_beq_eq_true h2).trans (Nat.eq_of_beq_eq_true h1).symm) hkj

/-- Operations look at their operands alone. -/
theorem evO_put {env : Env} {d : Option Nat} {v : V} {x : Operand} (h : ∀ k, d = some k → x ≠ .tmp k) : evO (put env d v) x = evO env x := by
  cases x with
  | tmp t => exact put_look fun k hk e => h k hk (by rw [e])
  | _ => rfl

theorem calleeV_congr {e e' : Operand → V} {op : Op} (h : ∀ x ∈ op.operands, e x = e' x) : calleeV e op = calleeV e' op := by
  unfold calleeV
  split
  · rename_i f args ts
    have hf : e f = e' f := h f (by simp [Op.operands, Call.operands])
    have ha : args.toList.map e = args.toList.map e' := List.map_congr_left fun x hx => h x (by simp [Op.operands, Call.operands]; right; simpa using hx)
    simp only [hf, ha]
  · rename_i hno
    first
    | rfl
    | (split
       · rename_i f args ts; exact absurd rfl (hno f args ts)
       · rfl)

theorem panicV_congr {e e' : Operand → V} {op : Op} (h : ∀ x ∈ op.operands, e x = e' x) : panicV e op = panicV e' op := by
  cases op <;> simp only [panicV]
  rename_i x
  rw [h x (by simp [Op.operands])]

theorem pairs_congr {e e' : Operand → V} {ps : Array (Nat × Operand)} (h : ∀ x ∈ (ps.toList.map (·.2)), e x = e' x) : (ps.toList.map fun p => (p.1, e p.2)) = (ps.toList.map fun p => (p.1, e' p.2)) :=
  List.map_congr_left fun p hp => by rw [h p.2 (List.mem_map.2 ⟨p, hp, rfl⟩)]

theorem execD_congr {e e' : Operand → V} {m : Mem} {op : Op} (h : ∀ x ∈ op.operands, e x = e' x) : execD P e m op = execD P e' m op := by
  cases op with
  | build t ps => simp only [execD]; rw [pairs_congr fun x hx => h x (by simpa [Op.operands] using hx)]
  | buildSlice t n ps => simp only [execD]; rw [pairs_congr fun x hx => h x (by simpa [Op.operands] using hx)]
  | makeFunc f a b =>
    cases f <;> simp only [execD]
    rw [List.map_congr_left (l := a.toList) fun x hx => h x (by simp [Op.operands]; left; simpa using hx), List.map_congr_left (l := b.toList) fun x hx => h x (by simp [Op.operands]; right; simpa using hx)]
  | slice t x lo hi mx =>
    cases mx with
    | some _ => rfl
    | none =>
      simp only [execD]
      rw [h x (by simp [Op.operands])]
      cases lo <;> cases hi <;> simp_all [Op.operands]
  | call c =>
    obtain ⟨cal, args, ts⟩ := c
    cases cal with
    | value f => rfl
    | invoke a b => rfl
    | builtin b =>
      have ha : ∀ x ∈ args.toList, e x = e' x := fun x hx => h x (by simp [Op.operands, Call.operands]; simpa using hx)
      cases b <;> simp only [execD]
      all_goals
        split
        · rename_i heq1 heq2
          first
          | (rw [ha _ (by rw [heq1]; simp), ha _ (by rw [heq1]; simp)])
          | (rw [ha _ (by rw [heq1]; simp)])
        · rfl
  | _ => first
    | rfl
    | (simp only [execD]; simp_all [Op.operands]; done)

theorem infoD_congr {e e' : Operand → V} {m : Mem} {op : Op} {v : V} (h : ∀ x ∈ op.operands, e x = e' x) : infoD e m op v = infoD e' m op v := by
  unfold infoD
  rw [calleeV_congr h]
  split
  · rfl
  · cases op with
    | buildSlice t n ps =>
      simp only
      have : (ps.toList.map fun p => e p.2) = (ps.toList.map fun p => e' p.2) := List.map_congr_left fun p hp => h p.2 (by simp [Op.operands]; exact ⟨p.1, by simpa using hp⟩)
      rw [this]
    | call c =>
      obtain ⟨cal, args, ts⟩ := c
      have ha : ∀ x ∈ args.toList, e x = e' x := fun x hx => h x (by cases cal <;> simp [Op.operands, Call.operands] <;> first | exact .inr (by simpa using hx) | simpa using hx)
      cases cal with
      | value f => rfl
      | invoke a b => rfl
      | builtin b =>
        cases b <;> try rfl
        all_goals
          simp only
          split
          · rename_i heq1
            first
            | (rw [ha _ (by rw [heq1]; simp), ha _ (by rw [heq1]; simp)])
            | (rw [ha _ (by rw [heq1]; simp)])
          · rfl
    | load t a => simp only; rw [h a (by simp [Op.operands])]
    | store t a x => simp only; rw [h a (by simp [Op.operands])]
    | _ => rfl

theorem StepV_congr {o : Oper} {env env' : Env} {m : Mem} {v : V} {m' : Mem} (h : ∀ x ∈ o.op.operands, evO env x = evO env' x) : StepV P o env m v m' ↔ StepV P o env' m v m' := by
  unfold StepV
  rw [calleeV_congr h, execD_congr h]

theorem wantD_put {o : Oper} {env : Env} {d : Option Nat} {v : V} (h : ∀ k, d = some k → k ∉ o.looksAt all) : wantD all (put env d v) o = wantD all env o := by
  unfold wantD
  split
  · rfl
  · rename_i j want hg
    split
    · rename_i t ht
      have : put env d v t = env t := put_look fun k hk e => h k hk (by subst e; simp [Oper.looksAt, hg, ht])
      rw [this]
    · rfl

theorem operands_put {o : Oper} {env : Env} {d : Option Nat} {v : V} (h : ∀ k, d = some k → k ∉ o.looksAt all) : ∀ x ∈ o.op.operands, evO (put env d v) x = evO env x :=
  fun x hx => evO_put fun k hk e => h k hk (by subst e; exact List.mem_append_left _ (List.mem_filterMap.2 ⟨.tmp k, by simpa using hx, rfl⟩))

theorem GStep_put {o : Oper} {inf : Info} {env : Env} {m : Mem} {v : V} {m' : Mem} {d : Option Nat} {u : V} (h : ∀ k, d = some k → k ∉ o.looksAt all) :
    GStep P all o inf (put env d u) m v m' ↔ GStep P all o inf env m v m' := by
  unfold GStep
  rw [wantD_put h]
  have ho := operands_put (env := env) (v := u) h
  split
  · exact Iff.rfl
  · exact Iff.rfl
  · rw [StepV_congr ho, panicV_congr ho, infoD_congr ho]

theorem GStep.loc {o : Oper} {inf : Info} {env : Env} {m : Mem} {v : V} {m' : Mem} (h : GStep P all o inf env m v m') :
    Loc (fun m v m' => GStep P all o inf env m v m') inf.rd inf.wr inf.al m v m' ∧ (inf.rd ++ inf.wr).all (fun n => Nat.blt n m.length) = true := by
  have h0 := h
  unfold GStep at h
  split at h
  · exact h.elim
  · rename_i hw
    obtain ⟨rfl, rfl, rfl⟩ := h
    refine ⟨Loc.pure fun m2 _ => ?_, by simp⟩
    unfold GStep
    rw [hw]
    exact ⟨rfl, rfl, rfl⟩
  · rename_i hw
    obtain ⟨h1, h2, h3, h4⟩ := h
    refine ⟨?_, h4⟩
    obtain ⟨a1, a2, a3, a4⟩ := h1.loc h3 h4
    refine ⟨a1, a2, a3, fun m2 k1 k2 => ?_⟩
    obtain ⟨m2', ⟨b1, b0⟩, b2⟩ := a4 m2 k1 k2
    refine ⟨m2', ?_, b2⟩
    unfold GStep
    rw [hw]
    refine ⟨b1, h2, b0, ?_⟩
    simp only [List.all_eq_true, Nat.blt_eq, List.mem_append] at h4 ⊢
    intro n hn
    have := k1 n hn
    rw [List.getElem?_eq_getElem (h4 n hn)] at this
    exact (List.getElem?_eq_some_iff.1 this).1

/-- An operation that may come up now may be taken first. -/
theorem anyA_first {fps : Nat → Info} {K : Env → Mem → Prop} {i : Nat} {oi : Oper} (hi : all[i]? = some oi) :
    ∀ (fuel : Nat) (listed : Array Bool) (env : Env) (m : Mem) (v : V) (mi : Mem),
      (∀ j oj, all[j]? = some oj → j ≠ i → listed.getD j true = false → (∀ e ∈ oj.after, Region.binds .any e = true → e.on ≠ i) → oi.apart all oj = true) →
      (∀ j oj, all[j]? = some oj → j ≠ i → listed.getD j true = false → (∀ e ∈ oj.after, Region.binds .any e = true → e.on ≠ i) → indep (fps i) m.length (fps j) = true) →
      i ∈ Region.ready .any all listed → GStep P all oi (fps i) env m v mi →
      anyA P all fps K fuel (listed.setIfInBounds i true) (put env oi.dst v) mi → anyA P all fps K (fuel + 1) listed env m := by
  intro fuel
  induction fuel with
  | zero =>
    intro listed env m v mi _ _ hr hg H
    refine ⟨fun h => (by rw [h] at hr; cases hr), fun j hj => ?_⟩
    by_cases hji : j = i
    · subst hji; exact ⟨oi, hi, v, mi, hg, H⟩
    · have := ready_mono hj hji
      rw [H.1] at this
      cases this
  | succ fuel ih =>
    intro listed env m v mi hfree hind hr hg H
    refine ⟨fun h => (by rw [h] at hr; cases hr), fun j hj => ?_⟩
    by_cases hji : j = i
    · subst hji; exact ⟨oi, hi, v, mi, hg, H⟩
    · obtain ⟨oj, hoj, vj, mij, hgj, H'⟩ := H.2 j (ready_mono hj hji)
      obtain ⟨hjun, oj', hoj', hall⟩ := mem_ready.1 hj
      rw [hoj] at hoj'; cases hoj'
      have hnot : ∀ e ∈ oj.after, Region.binds .any e = true → e.on ≠ i := fun e he hb heq => by
        have h1 := hall e he hb
        have h0 := (mem_ready.1 hr).1
        rw [heq] at h1
        rcases Nat.lt_or_ge i listed.size with h' | h'
        · simp [h'] at h0 h1; rw [h0] at h1; cases h1
        · simp [Array.getElem?_eq_none h'] at h1
      obtain ⟨h1, h2, h3⟩ := Oper.apart_spec (hfree j oj hoj hji hjun hnot)
      have hgj' := (GStep_put (u := v) h1).1 hgj
      have hin := hind j oj hoj hji hjun hnot
      obtain ⟨li, bi⟩ := hg.loc
      obtain ⟨lj, bj⟩ := hgj'.loc
      obtain ⟨mj, sj, si, _⟩ := li.commute lj bi bj hin
      have hun : ∀ k, k ≠ i → (listed.setIfInBounds j true).getD k true = false → listed.getD k true = false := fun k hki hk => by
        by_cases hjk : j = k
        · subst hjk; exact hjun
        · rwa [getD_set_ne true hjk] at hk
      refine ⟨oj, hoj, vj, mj, sj, ih (listed.setIfInBounds j true) _ mj v mij (fun k ok hk hki hk' hno => hfree k ok hk hki (hun k hki hk') hno) (fun k ok hk hki hk' hno => ?_) (ready_mono hr (Ne.symm hji)) ((GStep_put h3).2 si) ?_⟩
      · have h4 := hind k ok hk hki (hun k hki hk') hno
        -- the length counts only where new blocks are made
        have hal : (fps i).al = true → mj.length = m.length := by
          intro ha
          have : (fps j).al = false := by
            unfold indep at hin
            simp only [Bool.and_eq_true, Bool.not_eq_true', Bool.and_eq_false_iff] at hin
            rcases hin.2.2.1 with h | h
            · rw [ha] at h; cases h
            · exact h
          exact sj.loc.1.noal this
        unfold indep at h4 ⊢
        cases ha : (fps i).al with
        | false => simpa [ha] using h4
        | true => rw [hal ha]; simpa [ha] using h4
      · rw [Array.setIfInBounds_comm _ _ hji, put_comm (fun k hk e => h2 k e hk)]
        exact H'

theorem anyA_congr {fps fps' : Nat → Info} {K : Env → Mem → Prop} : ∀ (fuel : Nat) (listed : Array Bool) (env : Env) (m : Mem), (∀ j, listed.getD j true = false → fps j = fps' j) → anyA P all fps K fuel listed env m → anyA P all fps' K fuel listed env m
  | 0, _, _, _, _, h => h
  | fuel + 1, listed, env, m, hf, h => ⟨h.1, fun i hi => by
    obtain ⟨o, ho, v, m', hg, hr⟩ := h.2 i hi
    refine ⟨o, ho, v, m', by rw [← hf i (mem_ready.1 hi).1]; exact hg, anyA_congr fuel _ _ _ (fun j hj => ?_) hr⟩
    by_cases hij : i = j
    · subst hij
      exact hf i (mem_ready.1 hi).1
    · rw [getD_set_ne true hij] at hj
      exact hf j hj⟩

theorem lexA {K : Env → Mem → Prop} (hs : Region.noSelect all = true) : ∀ (l : List Oper) (k : Nat) (listed : Array Bool) (acc : List (Nat × Info × Nat)) (env : Env) (m : Mem), (∀ j, l[j]? = all[k + j]?) → (∀ j, j < k → listed.getD j true = true) →
    Region.lexFrom .any all l.length k listed = true → runDrawn P all K k acc l env m →
    ∃ fps : Nat → Info, (∀ x ∈ acc, ∀ j oj, k ≤ j → all[j]? = some oj → waits oj x.1 = true ∨ indep x.2.1 x.2.2 (fps j) = true) ∧ anyA P all fps K l.length listed env m
  | [], k, listed, acc, env, m, hl, _, hB, h => by
    refine ⟨fun _ => ⟨[], [], false⟩, fun x _ j oj hj ho => ?_, by simpa [Region.lexFrom] using hB, h⟩
    have := hl (j - k)
    rw [show k + (j - k) = j by omega, ho] at this
    simp at this
  | o :: l, k, listed, acc, env, m, hl, hls, hB, h => by
    have h0 : all[k]? = some o := by simpa using (hl 0).symm
    simp only [List.length_cons, Region.lexFrom, Bool.and_eq_true] at hB
    obtain ⟨⟨hr, hf⟩, hB'⟩ := hB
    have hr' : k ∈ Region.ready .any all listed := by simpa using hr
    have hkun := (mem_ready.1 hr').1
    have hksz : k < listed.size := by
      rcases Nat.lt_or_ge k listed.size with h' | h'
      · exact h'
      · simp [Array.getElem?_eq_none h'] at hkun
    have hl' : ∀ j, l[j]? = all[k + 1 + j]? := fun j => by have := hl (j + 1); simpa [Nat.add_assoc, Nat.add_comm 1 j] using this
    have hls' : ∀ j, j < k + 1 → (listed.setIfInBounds k true).getD j true = true := fun j hj => by
      by_cases hkj : k = j
      · subst hkj; simp [hksz]
      · rw [getD_set_ne true hkj]; exact hls j (by omega)
    have hself : (listed.setIfInBounds k true).getD k true = true := hls' k (by omega)
    have hgt : ∀ j, j ≠ k → listed.getD j true = false → k + 1 ≤ j := fun j hjk hun => by
      rcases Nat.lt_or_ge j k with h' | h'
      · rw [hls j h'] at hun; cases hun
      · omega
    have hfree := Region.free_spec h0 hf
    simp only [runDrawn] at h
    split at h
    · exact h.elim
    · rename_i hw
      obtain ⟨fps, f1, f2⟩ := lexA hs l (k + 1) (listed.setIfInBounds k true) acc _ _ hl' hls' hB' h
      refine ⟨fun j => if j = k then ⟨[], [], false⟩ else fps j, fun x hx j oj hj ho => ?_, ?_⟩
      · by_cases hjk : j = k
        · right; simp [hjk, indep, disj]
        · simp only [hjk, if_false]; exact f1 x hx j oj (by omega) ho
      · refine anyA_first h0 l.length listed env m (.tup []) m hfree (fun j oj ho hjk hun hno => ?_) hr' ?_ (anyA_congr _ _ _ _ (fun j hj => ?_) f2)
        · simp [indep, disj]
        · unfold GStep; rw [hw]; simp
        · rw [if_neg]
          rintro rfl
          rw [hself] at hj; cases hj
    · rename_i hw
      obtain ⟨v, m', inf, s1, ⟨s2, s3, s4, s5⟩, s6⟩ := h
      obtain ⟨fps, f1, f2⟩ := lexA hs l (k + 1) (listed.setIfInBounds k true) ((k, inf, m.length) :: acc) _ _ hl' hls' hB' s6
      refine ⟨fun j => if j = k then inf else fps j, fun x hx j oj hj ho => ?_, ?_⟩
      · by_cases hjk : j = k
        · subst hjk
          rw [h0] at ho; cases ho
          simp only [if_true]
          have := List.all_eq_true.1 s5 x hx
          simpa using this
        · simp only [hjk, if_false]; exact f1 x (by simp [hx]) j oj (by omega) ho
      · refine anyA_first h0 l.length listed env m v m' hfree (fun j oj ho hjk hun hno => ?_) hr' ?_ (anyA_congr _ _ _ _ (fun j hj => ?_) f2)
        · simp only [if_true, hjk, if_false]
          rcases f1 (k, inf, m.length) (by simp) j oj (hgt j hjk hun) ho with h' | h'
          · unfold waits at h'
            rw [List.any_eq_true] at h'
            obtain ⟨e, he, h'⟩ := h'
            simp only [Bool.and_eq_true, Nat.beq_eq] at h'
            exact absurd h'.2 (hno e (by simpa using he) h'.1)
          · exact h'
        · simp only [if_true]
          unfold GStep; rw [hw]
          exact ⟨s1, s2, s3, s4⟩
        · rw [if_neg]
          rintro rfl
          rw [hself] at hj; cases hj

theorem StepV_sound {ρ : Pl} {I : Nat → Prop} {w : World} {m m' : Mem} (hr : Rep ρ I m w) {a : Act} {env : Env} (he : REnv m.length ρ I w env a) {o : Oper} {v : V} (h : StepV P o env m v m')
    {next : Act → World → Prop} {Q : Exit → Act → World → Prop} (hK : ∀ x ρ' I' w', Rep ρ' I' m' w' → Step ρ I m w ρ' I' m' w' → RV m'.length ρ' I' w' v x → next (a.put o.dst x) w') : o.wp P a w next Q := by
  unfold StepV at h
  split at h
  · rename_i f vs hc
    obtain ⟨h1, h2, h3⟩ := h
    have hcd : callD P f vs m (fun v2 m2 => v2 = v ∧ m2 = m') (fun _ _ => False) := by
      refine ⟨h1, h2, ?_⟩
      rcases h3 with ⟨g1, g2, rfl, g3⟩ | ⟨v1, m1, g1, g2, g3, rfl, rfl⟩
      · refine ⟨_, g3, ?_⟩
        rintro r ⟨m1, rfl⟩
        simp only [CR.val, CR.mem, okRes, backV, g1, g2, Bool.and_self, Bool.true_or, cond_true, and_self]
      · refine ⟨_, g1, ?_⟩
        rintro r rfl
        simp only [CR.val, CR.mem]
        refine ⟨by simp [okRes, g2], ?_⟩
        have : ((rootsV m vs).isEmpty && nf v1) = false := by
          cases hL : (rootsV m vs).isEmpty with
          | false => rfl
          | true =>
            rw [hL] at g3
            simp only [Bool.true_and] at g3 ⊢
            cases hn : nf v1 with
            | false => rfl
            | true => rw [ren_nf _ _ hn, hn] at g3; cases g3
        simp only [backV, this, cond_false, and_self]
    exact callD_sound hr he hc hcd (fun v2 m2 x ρ' I' w' hv r1 r2 r3 => by obtain ⟨rfl, rfl⟩ := hv; exact hK x ρ' I' w' r1 r2 r3) (fun _ _ _ _ _ _ hf => hf.elim)
  · split at h
    · rename_i u m1 hx
      obtain ⟨rfl, rfl⟩ := h
      obtain ⟨x, w', ρ', I', k1, k2, k3, k4⟩ := execD_sound hr (fun x => he.evO x) hx
      unfold Oper.wp
      rw [k1]
      exact hK x ρ' I' w' k2 k3 k4
    · rename_i m1 hx
      obtain ⟨rfl, rfl⟩ := h
      obtain ⟨w', ρ', I', k1, k2, k3⟩ := execD_sound hr (fun x => he.evO x) hx
      unfold Oper.wp
      rw [k1]
      exact hK undef ρ' I' w' k2 k3 (RV_undef _)
    · exact h.elim

theorem anyA_sound {nt : Nat} (hd : dstsOk nt all = true) {fps : Nat → Info} {Q : Exit → Act → World → Prop} {ds : List Deferred} (ρ0 : Pl) (I0 : Nat → Prop) (m0 : Mem) (w0 : World) (K : Env → Mem → Prop)
    (hK : ∀ env m a ρ I w, K env m → Rep ρ I m w → REnv m.length ρ I w env a → a.tmps.size = nt → a.defers = ds → Step ρ0 I0 m0 w0 ρ I m w → Q .normal a w) :
    ∀ (fuel : Nat) (listed : Array Bool) (env : Env) (m : Mem) (a : Act) (ρ : Pl) (I : Nat → Prop) (w : World), anyA P all fps K fuel listed env m → Rep ρ I m w → REnv m.length ρ I w env a → a.tmps.size = nt → a.defers = ds →
      Step ρ0 I0 m0 w0 ρ I m w → wpAny P .any all Q fuel listed a w
  | 0, _, env, m, a, ρ, I, w, h, hr, he, hs, hds, hst => ⟨h.1, hK env m a ρ I w h.2 hr he hs hds hst⟩
  | fuel + 1, listed, env, m, a, ρ, I, w, h, hr, he, hs, hds, hst => by
    refine ⟨fun h0 => hK env m a ρ I w (h.1 h0) hr he hs hds hst, fun i hi => ?_⟩
    obtain ⟨o, ho, v, m', hg, hrest⟩ := h.2 i hi
    have hmem : o ∈ all.toList := by rw [← Array.getElem?_toList] at ho; exact List.mem_of_getElem? ho
    have hdo := dstsOk_spec hd hmem
    have hall : ∀ (i : Nat) (x : Oper) d, all[i]? = some x → x.dst = some d → d < a.tmps.size := fun i x d h1 h2 => by
      rw [hs]; exact dstsOk_spec hd (by rw [← Array.getElem?_toList] at h1; exact List.mem_of_getElem? h1) d h2
    have hput : ∀ x, (a.put o.dst x).tmps.size = nt ∧ (a.put o.dst x).defers = ds := by
      intro x
      unfold Act.put
      cases o.dst <;> simp [hs, hds]
    unfold wpOp
    simp only [ho]
    unfold GStep at hg
    split at hg
    · exact hg.elim
    · rename_i hw
      have hwant := wantD_sound he hw hall
      rw [if_neg (by rw [hwant]; exact Bool.false_ne_true)]
      obtain ⟨rfl, rfl, _⟩ := hg
      exact anyA_sound hd ρ0 I0 m0 w0 K hK fuel _ _ _ _ _ _ _ hrest hr (he.put (RV_undef _) (fun k hk => by rw [hs]; exact hdo k hk)) (hput _).1 (hput _).2 hst
    · rename_i hw
      have hwant := wantD_sound he hw hall
      rw [if_pos hwant]
      refine .inl (StepV_sound hr he hg.1 fun x ρ' I' w' r1 r2 r3 => ?_)
      exact anyA_sound hd ρ0 I0 m0 w0 K hK fuel _ _ _ _ _ _ _ hrest r1 ((he.keep r2.keeps).put r3 (fun k hk => by rw [hs]; exact hdo k hk)) (hput _).1 (hput _).2 (hst.trans r2)

theorem drawn_sound {nt : Nat} {id : Nat} (hd : dstsOk nt all = true) (hm : P.follows .mixedOrders = true) (hB : Region.lexB .any all = true) {Q : Exit → Act → World → Prop} {ds : List Deferred} (K : Env → Mem → Prop)
    {env : Env} {m : Mem} {a : Act} {ρ : Pl} {I : Nat → Prop} {w : World} (h : runDrawn P all K 0 [] all.toList env m) (hr : Rep ρ I m w) (he : REnv m.length ρ I w env a) (hs : a.tmps.size = nt) (hds : a.defers = ds)
    (hK : ∀ env m' a ρ' I' w', K env m' → Rep ρ' I' m' w' → REnv m'.length ρ' I' w' env a → a.tmps.size = nt → a.defers = ds → Step ρ I m w ρ' I' m' w' → Q .normal a w') :
    (Code.region id all true).wp P Q a w := by
  simp only [Region.lexB, Bool.and_eq_true] at hB
  refine wp_region_any hm ?_
  obtain ⟨fps, _, hA⟩ := lexA hB.1 all.toList 0 (Array.replicate all.size false) [] env m (by simp) (fun j hj => by omega) (by simpa using hB.2) h
  obtain ⟨r1, r2⟩ := hr.same (Same.drew w)
  have := anyA_sound hd ρ I m w K hK _ _ env m a ρ I w.drew hA r1 (he.keep r2.keeps) hs hds r2
  simpa using this
end
end Go.Proofs.Ytnhejkfbnjopjaa.Ab
