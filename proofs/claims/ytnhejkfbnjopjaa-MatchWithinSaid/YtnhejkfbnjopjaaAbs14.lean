/- A region whose order is open: every order. No condition. -/
import Derived.Test.YtnhejkfbnjopjaaAbs13
namespace Go.Proofs.Ytnhejkfbnjopjaa.Ab
open Go
set_option linter.unusedSimpArgs false
set_option linter.unusedVariables false

section
variable {P : Program} {m : Mem}

theorem merge_get {L : List Nat} {m2 m1 : Mem} (hn : L.Nodup) (hl : m2.length = m.length) (hL : ∀ n ∈ L, n < m.length) (hle : L.length ≤ m1.length) (n : Nat) :
    (merge L m2 m1)[n]? = if n < m2.length ∧ n ∉ L then m2[n]? else (merge L m m1)[n]? := by
  unfold merge
  rw [hl]
  by_cases h : n < m.length
  · rw [List.getElem?_append_left (by rw [setAll_length]; omega), List.getElem?_append_left (by rw [setAll_length]; omega)]
    by_cases hm : n ∈ L
    · rw [if_neg (by simp [hm])]
      obtain ⟨i, hi⟩ := List.getElem?_of_mem hm
      cases hb : ((m1.take L.length).map (renB (back L m.length)))[i]? with
      | some b => rw [setAll_in L _ m2 i n b hn hi hb (by omega), setAll_in L _ m i n b hn hi hb h]
      | none =>
        exfalso
        have hil := (List.getElem?_eq_some_iff.1 hi).1
        rw [List.getElem?_eq_none_iff] at hb
        simp at hb
        omega
    · rw [if_pos ⟨h, hm⟩, setAll_out L _ m2 n hm]
  · rw [if_neg (by omega), List.getElem?_append_right (by rw [setAll_length]; omega), List.getElem?_append_right (by rw [setAll_length]; omega), setAll_length, setAll_length, hl]

theorem getD_eq {m2 : Mem} {n : Nat} (h : m2[n]? = m[n]?) : m2.getD n .dead = m.getD n .dead := by simp [List.getD, h]

/-- A step's place, whatever the operation. -/
theorem StepV.loc {o : Oper} {env : Env} {v : V} {m' : Mem} {inf : Info} (h : StepV P o env m v m') (hi : infoD (evO env) m o.op v = some inf) (hb : (inf.rd ++ inf.wr).all (fun n => Nat.blt n m.length) = true) :
    Loc (fun m v m' => StepV P o env m v m' ∧ infoD (evO env) m o.op v = some inf) inf.rd inf.wr inf.al m v m' := by
  have h0 := h
  have hi0 := hi
  unfold StepV at h
  unfold infoD at hi
  split at h
  · rename_i f vs hc
    rw [hc] at hi
    cases hi
    simp only [List.nil_append, List.all_eq_true, Nat.blt_eq] at hb
    obtain ⟨h1, h2, h3⟩ := h
    have hok := h1
    unfold okCall at hok
    simp only [Bool.and_eq_true] at hok
    obtain ⟨c1, c2, c3⟩ := closed_parts hok.2
    -- the same call in another memory
    have same : ∀ m2 : Mem, (∀ n ∈ rootsV m vs, m2[n]? = m[n]?) → rootsV m2 vs = rootsV m vs ∧ okCall (rootsV m vs) m2 vs = true ∧ view (rootsV m vs) m2 = view (rootsV m vs) m := by
      intro m2 hm
      refine ⟨reach_loc _ _ _ hm, ?_, ?_⟩
      · unfold okCall closedB
        have e1 : ∀ n ∈ rootsV m vs, n < m2.length := fun n hn => by
          have := hm n hn
          rw [List.getElem?_eq_getElem (c2 n hn)] at this
          exact (List.getElem?_eq_some_iff.1 this).1
        have hcl := hok.2
        unfold closedB at hcl
        simp only [Bool.and_eq_true, List.all_eq_true, Nat.blt_eq] at hcl ⊢
        exact ⟨hok.1, hcl.1, e1, fun n hn => by rw [getD_eq (hm n hn)]; exact hcl.2.2 n hn⟩
      · unfold view
        exact List.map_congr_left fun n hn => by rw [getD_eq (hm n hn)]
    rcases h3 with ⟨g1, g2, rfl, g3⟩ | ⟨v1, m1, g1, g2, g3, g4, rfl⟩
    · simp only [g1, g2, Bool.and_self, Bool.not_true]
      have hL : rootsV m' vs = [] := List.isEmpty_iff.1 g1
      rw [hL]
      refine Loc.pure fun m2 hm2 => ?_
      obtain ⟨s1, s2, s3⟩ := same m2 (by rw [hL]; simp)
      refine ⟨?_, ?_⟩
      · unfold StepV
        rw [hc]
        simp only [s1, s2, s3]
        exact ⟨trivial, h2, .inl ⟨g1, g2, trivial, g3⟩⟩
      · unfold infoD
        rw [hc]
        simp only [s1, hL, g2, List.isEmpty_nil, Bool.and_self, Bool.not_true]
    · simp only [g3, Bool.not_false]
      have hlen := merge_length (rootsV m vs) m m1
      refine ⟨by omega, (fun h => by cases h), fun n hn hL => ?_, fun m2 k1 k2 => ?_⟩
      · unfold merge
        rw [List.getElem?_append_left (by rw [setAll_length]; exact hn), setAll_out _ _ _ _ hL]
      · have e2 := k2 rfl
        obtain ⟨s1, s2, s3⟩ := same m2 (fun n hn => k1 n (.inr hn))
        have hle : (rootsV m vs).length ≤ m1.length := by
          unfold okBack at g2
          simp only [Bool.and_eq_true, Nat.ble_eq] at g2
          exact g2.2.2
        have hmg := merge_get (m := m) (m2 := m2) (m1 := m1) c1 e2 c2 hle
        refine ⟨merge (rootsV m vs) m2 m1, ⟨?_, ?_⟩, ?_, fun n hn hlt => ?_, fun n hlt hn => ?_, fun j => ?_⟩
        · unfold StepV
          rw [hc]
          simp only [s1, s2, s3, e2]
          exact ⟨trivial, h2, .inr ⟨v1, m1, g1, g2, g3, g4, rfl⟩⟩
        · unfold infoD
          rw [hc]
          simp only [s1, g3, Bool.not_false]
        · rw [merge_length, merge_length]; omega
        · rw [hmg n, if_neg (by simp [hn])]
        · rw [hmg n, if_pos ⟨hlt, hn⟩]
        · rw [hmg, if_neg (by omega), e2]
  · rename_i hc
    rw [hc] at hi
    simp only at hi
    obtain ⟨dst, op, ty, pos, af, gd⟩ := o
    simp only at h hi hc h0 hi0
    have stepOf : ∀ {m2 m2' : Mem} {u : V}, execD P (evO env) m2 op = some (.val u m2') → StepV P { dst := dst, op := op, type := ty, pos := pos, after := af, guard := gd } env m2 u m2' := by
      intro m2 m2' u he
      unfold StepV
      simp only [hc, he]
      exact ⟨trivial, trivial⟩
    have pureS : (∃ q : Option V, ∀ m2, execD P (evO env) m2 op = q.map (Res.val · m2)) → (∀ m2 : Mem, infoD (evO env) m2 op v = some ⟨[], [], false⟩) → inf = ⟨[], [], false⟩ →
        Loc (fun m v m' => StepV P { dst := dst, op := op, type := ty, pos := pos, after := af, guard := gd } env m v m' ∧ infoD (evO env) m op v = some inf) inf.rd inf.wr inf.al m v m' := by
      rintro ⟨q, e1⟩ e4 e5
      subst e5
      rw [e1] at h
      cases q with
      | none => exact h.elim
      | some u =>
        simp only [Option.map_some] at h
        obtain ⟨rfl, rfl⟩ := h
        refine Loc.pure fun m2 _ => ⟨stepOf (by rw [e1 m2]; rfl), e4 m2⟩
    have newS : ∀ {b : B} {u : V}, (∀ m2 : Mem, m2.length = m.length → execD P (evO env) m2 op = some (.val u (m2 ++ [b]))) → (∀ m2 : Mem, infoD (evO env) m2 op v = some ⟨[], [], true⟩) → inf = ⟨[], [], true⟩ →
        Loc (fun m v m' => StepV P { dst := dst, op := op, type := ty, pos := pos, after := af, guard := gd } env m v m' ∧ infoD (evO env) m op v = some inf) inf.rd inf.wr inf.al m v m' := by
      intro b u e1 e4 e5
      subst e5
      rw [e1 m rfl] at h
      simp only at h
      obtain ⟨rfl, rfl⟩ := h
      exact Loc.new fun m2 hl => ⟨stepOf (e1 m2 hl), e4 m2⟩
    cases op with
    | move x => simp only [Option.some.injEq] at hi; exact pureS ⟨some (evO env x), fun _ => rfl⟩ (fun _ => rfl) hi.symm
    | assign x => simp only [Option.some.injEq] at hi; exact pureS ⟨some (evO env x), fun _ => rfl⟩ (fun _ => rfl) hi.symm
    | pick c x y =>
      simp only [Option.some.injEq] at hi
      refine pureS ⟨match evO env c with | .bool t => some (pickV t (evO env x) (evO env y)) | _ => none, fun _ => ?_⟩ (fun _ => rfl) hi.symm
      simp only [execD]
      cases evO env c <;> rfl
    | alloc t =>
      simp only [Option.some.injEq] at hi
      simp only [execD] at h
      unfold allocV newV at h
      cases hti : P.info? t with
      | none => simp [hti] at h
      | some i =>
        cases hz : i.zero with
        | none => simp [hti, hz] at h
        | some z =>
          cases hb : cellsB (constV z) with
          | false => simp [hti, hz, hb] at h
          | true => exact newS (b := .var t (cellsOfV (constV z))) (u := .ptr m.length 0) (fun m2 hl => by simp [execD, allocV, newV, hti, hz, hb, hl]) (fun _ => rfl) hi.symm
    | box t x =>
      simp only [Option.some.injEq] at hi
      simp only [execD] at h
      unfold newV at h
      cases hb : cellsB (evO env x) with
      | false => simp [hb] at h
      | true => exact newS (b := .var t (cellsOfV (evO env x))) (u := .ptr m.length 0) (fun m2 hl => by simp [execD, newV, hb, hl]) (fun _ => rfl) hi.symm
    | build t ps => simp only [Option.some.injEq] at hi; exact pureS ⟨_, fun _ => rfl⟩ (fun _ => rfl) hi.symm
    | buildSlice t n ps =>
      simp only at hi
      cases hn : nfs (ps.toList.map fun p => evO env p.2) with
      | false => rw [hn] at hi; cases hi
      | true =>
        rw [hn] at hi
        simp only [cond_true, Option.some.injEq] at hi
        have hps : nfs ((ps.toList.map fun p => (p.1, evO env p.2)).map (·.2)) = true := by rw [List.map_map]; exact hn
        simp only [execD] at h
        unfold bsliceV at h
        cases hu : P.underlying t with
        | none => simp [hu] at h
        | some d =>
          cases d with
          | slice e =>
            cases hz : zeroE P e with
            | none => simp [hu, hz] at h
            | some zz =>
              obtain ⟨z, sz, by_⟩ := zz
              cases hb : Nat.ble (n * sz) 16777216 with
              | false => simp [hu, hz, hb] at h
              | true =>
                cases hf : fillE sz (List.replicate n z) (ps.toList.map fun p => (p.1, evO env p.2)) with
                | none => simp [hu, hz, hb, frzP_nf _ _ hps, hf] at h
                | some es => exact newS (b := .row e sz es) (u := .sl sz m.length 0 n) (fun m2 hl => by simp [execD, bsliceV, hu, hz, hb, frzP_nf _ _ hps, hf, hl]) (fun _ => by simp only [infoD, calleeV, hn, cond_true]) hi.symm
          | _ => simp [hu] at h
    | load t a =>
      simp only [Option.some.injEq] at hi
      subst hi
      simp only [execD] at h
      cases hl : loadV P m t (evO env a) with
      | none => rw [hl] at h; exact h.elim
      | some u =>
        rw [hl] at h
        simp only [Option.map_some] at h
        obtain ⟨rfl, rfl⟩ := h
        refine Loc.pure fun m2 hm2 => ⟨stepOf ?_, rfl⟩
        simp only [execD, loadV_loc hm2, hl, Option.map_some]
    | store t a x =>
      simp only [Option.some.injEq] at hi
      subst hi
      simp only [execD] at h
      cases hl : storeV P t m (evO env a) (evO env x) with
      | none => rw [hl] at h; exact h.elim
      | some u =>
        rw [hl] at h
        simp only [Option.map_some] at h
        obtain ⟨rfl, rfl⟩ := h
        obtain ⟨n, b, k1, k2, rfl, k3⟩ := storeV_loc hl
        simp only [k1]
        refine Loc.store k2 fun m2 hm2 => ⟨?_, by simp only [infoD, calleeV, k1]⟩
        unfold StepV
        simp only [hc, execD, k3 m2 hm2, Option.map_some]
        exact ⟨trivial, trivial⟩
    | nilCheck x =>
      simp only [Option.some.injEq] at hi
      refine pureS ⟨bif nonnil (evO env x) then some (evO env x) else none, fun _ => ?_⟩ (fun _ => rfl) hi.symm
      simp only [execD]
      cases nonnil (evO env x) <;> rfl
    | binOp b t x y yt => simp only [Option.some.injEq] at hi; exact pureS ⟨_, fun _ => rfl⟩ (fun _ => rfl) hi.symm
    | unOp b t x => simp only [Option.some.injEq] at hi; exact pureS ⟨_, fun _ => rfl⟩ (fun _ => rfl) hi.symm
    | convert s d x => simp only [Option.some.injEq] at hi; exact pureS ⟨_, fun _ => rfl⟩ (fun _ => rfl) hi.symm
    | makeFunc f a b =>
      simp only [Option.some.injEq] at hi
      cases f with
      | func f => exact pureS ⟨some _, fun _ => rfl⟩ (fun _ => rfl) hi.symm
      | _ => simp [execD] at h
    | makeInterface t x =>
      simp only [Option.some.injEq] at hi
      refine pureS ⟨bif P.concrete t then some (.ifc t (evO env x)) else none, fun _ => ?_⟩ (fun _ => rfl) hi.symm
      simp only [execD]
      cases P.concrete t <;> rfl
    | slice t x lo hi' mx =>
      simp only [Option.some.injEq] at hi
      cases mx with
      | none => exact pureS ⟨_, fun _ => rfl⟩ (fun _ => rfl) hi.symm
      | some _ => simp [execD] at h
    | fieldAddr t x f => simp only [Option.some.injEq] at hi; exact pureS ⟨_, fun _ => rfl⟩ (fun _ => rfl) hi.symm
    | field t x f => simp only [Option.some.injEq] at hi; exact pureS ⟨_, fun _ => rfl⟩ (fun _ => rfl) hi.symm
    | indexAddr t x y => simp only [Option.some.injEq] at hi; exact pureS ⟨_, fun _ => rfl⟩ (fun _ => rfl) hi.symm
    | index t x y => simp only [Option.some.injEq] at hi; exact pureS ⟨_, fun _ => rfl⟩ (fun _ => rfl) hi.symm
    | extract x y => simp only [Option.some.injEq] at hi; exact pureS ⟨_, fun _ => rfl⟩ (fun _ => rfl) hi.symm
    | call c =>
      obtain ⟨cal, args, ts⟩ := c
      cases cal with
      | value f => simp [execD] at h
      | invoke a b => simp [execD] at h
      | builtin b =>
        cases b
        case append =>
          simp only at hi
          split at hi
          · rename_i s x hargs
            simp only [Option.some.injEq] at hi
            subst hi
            simp only [execD, hargs] at h
            cases hts : ts.toList with
            | nil => simp [hts] at h
            | cons t r =>
              cases r with
              | nil => simp [hts] at h
              | cons u r =>
                cases r with
                | cons _ _ => simp [hts] at h
                | nil =>
                  simp only [hts] at h
                  cases ha : appendV P t u (evO env s) (evO env x) m with
                  | none => rw [ha] at h; exact h.elim
                  | some p =>
                    obtain ⟨q, mq⟩ := p
                    rw [ha] at h
                    simp only [Option.map_some] at h
                    obtain ⟨rfl, rfl⟩ := h
                    obtain ⟨a1, a2, a3, a4⟩ := appendV_loc ha
                    refine ⟨a1, a2, a3, fun m2 k1 k2 => ?_⟩
                    obtain ⟨m2', b1, b2⟩ := a4 m2 k1 k2
                    exact ⟨m2', ⟨stepOf (by simp only [execD, hargs, hts, b1, Option.map_some]), by simp only [infoD, calleeV, hargs]⟩, b2⟩
          · cases hi
        case len =>
          simp only at hi
          split at hi
          · rename_i x hargs
            simp only [Option.some.injEq] at hi
            subst hi
            simp only [execD, hargs] at h
            cases hts : ts.toList with
            | nil => simp [hts] at h
            | cons t r =>
              cases r with
              | cons _ _ => simp [hts] at h
              | nil =>
                simp only [hts] at h
                cases ha : lenV P m t (evO env x) with
                | none => rw [ha] at h; exact h.elim
                | some p =>
                  rw [ha] at h
                  simp only [Option.map_some] at h
                  obtain ⟨rfl, rfl⟩ := h
                  refine Loc.pure fun m2 hm2 => ⟨stepOf ?_, by simp only [infoD, calleeV, hargs]⟩
                  have : lenV P m2 t (evO env x) = lenV P m' t (evO env x) := by
                    cases hx : evO env x <;> simp only [lenV]
                    rw [hm2 _ (by rw [hx]; simp [mnm])]
                  simp only [execD, hargs, hts, this, ha, Option.map_some]
          · cases hi
        all_goals (simp [execD] at h; done)
    | _ => simp [execD] at h
end
end Go.Proofs.Ytnhejkfbnjopjaa.Ab
