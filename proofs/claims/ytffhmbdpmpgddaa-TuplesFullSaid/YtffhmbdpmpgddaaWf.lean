/- New tables; a rule is found. No condition. -/
import Derived.Test.YtffhmbdpmpgddaaWg
namespace Go.Proofs.Ytffhmbdpmpgddaa
open Go Ab
set_option linter.unusedSimpArgs false
set_option linter.unusedVariables false
set_option maxRecDepth 20000

def newT : Tbl := ⟨[], [], 0, 0, 0, true⟩
theorem snd7 : Snd Try.prog 7 [] [] fun q => q = .ret (.ptr 1 0) [.map [] [] 0, .var 55 [.nils, .mp 0, .int .i64 0]] := by
  refine Snd_of_W fol rfl rfl (by kernel_rfl) (by kernel_rfl) ?_
  have b55 : buildV Try.prog 55 [(1, .mp 0)] = some (.agg [.nils, .mp 0, .int .i64 0]) := by kernel_rfl
  simp -implicitDefEqProofs only [sims.1, fx.1, keeps.1, tick_on, calleeK, extractV, oneV, faddrK, nonnil, b_shr, b_shl, fieldK, Nat.reduceAdd, Nat.reduceMul, Nat.reduceSub, Nat.reduceEqDiff, Nat.reduceLT, Nat.reduceLeDiff, Nat.reduceBEq, Nat.reduceBNe, reduceIte, Int.reduceEq, Int.reduceLT, Int.reduceLE, Int.reduceNe, Int.reduceToNat, b55]
theorem tb_new : TB [.map [] [] 0, .var 55 [.nils, .mp 0, .int .i64 0]] 1 newT :=
  ⟨rfl, ⟨[], 0, rfl, rfl, List.nodup_nil, fun _ h => by simp at h⟩, fun h => (by cases h), fun _ h => by simp [newT] at h, by decide, fun _ => rfl⟩
theorem ok_new : TOk newT := ⟨fun _ h => by simp [newT] at h, fun _ h => by simp [newT] at h, by decide, fun _ h => by simp [newT] at h, fun _ h => by simp [newT] at h, by decide, fun _ h => by simp [newT] at h⟩

theorem hcv (h : Nat → Nat) : hv h = .agg (hC h) := rfl
theorem and_lt11 {h k : Nat → Nat} (hh : U64 11 h) : U64 11 (undH h k) := fun i hi => and_lt _ _ (hh i hi)
set_option maxHeartbeats 8000000 in
theorem snd9 {m : Mem} {p : Nat} {T : Tbl} {h : Nat → Nat} (hT : TB m p T) (ok : TOk T) (hh : U64 11 h) :
    Snd Try.prog 9 [.ptr p 0, .agg (hC h)] m fun q => ∃ b, q = .ret (.tup [.int .i64 (fndB h T.rows (0, 0)).1, .bool (decide (0 < (fndB h T.rows (0, 0)).1))]) (m ++ [.var 25 (hC h), .var 65 (inC b)]) := by
  refine Snd_of_W fol rfl rfl (by kernel_rfl) (by kernel_rfl) ?_
  have pe26 : ∀ (n o : Nat) (env : Env), binV Try.prog .eql 26 (.ptr n o) (evO env (.const (.pointer none))) = some (.bool false) := fun _ _ _ => rfl
  have tc : ∀ T, (tbC T)[0]? = some (rowsV T) := fun _ => rfl
  have hpl := hT.lt p (by simp [posT])
  have lv := hT.lenR
  have hp0 : ∀ l : Mem, (m ++ l)[p]? = some (.var 55 (tbC T)) := fun l => by rw [List.getElem?_append_left hpl]; exact hT.tp
  have assoc : m ++ [B.var 25 (hC h)] ++ [B.var 65 (cl .i64 2 fun _ => 0)] = m ++ [.var 25 (hC h), .var 65 (inC (0, 0))] := by rw [List.append_assoc]; rfl
  have hl1 : (m ++ [B.var 25 (hC h)]).length = m.length + 1 := by simp
  simp -implicitDefEqProofs only [sims.1, fx.1, keeps.1, tick_on, calleeK, extractV, oneV, faddrK, nonnil, b_shr, b_shl, fieldK, Nat.reduceAdd, Nat.reduceMul, Nat.reduceSub, Nat.reduceEqDiff, Nat.reduceLT, Nat.reduceLeDiff, Nat.reduceBEq, Nat.reduceBNe, reduceIte, Int.reduceEq, Int.reduceLT, Int.reduceLE, Int.reduceNe, Int.reduceToNat, pe26, assoc, hl1, hp0, tc, lv]
  have hT' : ∀ b, TB (m ++ [.var 25 (hC h), .var 65 (inC b)]) p T := fun b => hT.app _
  have g0 : ∀ b, (m ++ [B.var 25 (hC h), .var 65 (inC b)])[m.length]? = some (.var 25 (hC h)) := fun b => by simp
  have g1 : ∀ b, (m ++ [B.var 25 (hC h), .var 65 (inC b)])[m.length + 1]? = some (.var 65 (inC b)) := fun b => by simp
  have c0 : ∀ b, (inC b)[0]? = some (.int .i64 b.1) := fun _ => rfl
  have c1 : ∀ b, (inC b)[1]? = some (.int .i64 b.2) := fun _ => rfl
  have ph : partK true 11 (hC h) 0 = some (hv h) := rfl
  refine W_loopM (fun x : Nat × (Int × Int) => [(16, .int .i64 (T.rows.length : Int)), (15, rowsV T), (3, .ptr m.length 0), (17, .int .i64 (x.1 : Int)), (6, .ptr (m.length + 1) 0)])
    (fun x mm => x.1 ≤ T.rows.length ∧ fndB h T.rows (0, 0) = fndB h (T.rows.drop x.1) x.2 ∧ mm = m ++ [.var 25 (hC h), .var 65 (inC x.2)]) (fun x => T.rows.length - x.1) (0, (0, 0)) (by kernel_rfl) ⟨Nat.zero_le _, rfl, rfl⟩ ?_
  rintro ⟨j, b⟩ mm ⟨hj, hf, rfl⟩
  simp only at hj hf
  rcases Nat.lt_or_ge j T.rows.length with h1 | h1
  · have d1 : decide (j < T.rows.length) = true := by simpa using h1
    have c7 := wrap_i64s j (by have := ok.num; omega)
    have hne : T.rows ≠ [] := fun e => by rw [e] at h1; exact absurd h1 (Nat.not_lt_zero _)
    have rv := hT.rv hne
    have i1 : ∀ {kk : IntKind}, iaddrS 1 (.sl 1 T.q 0 T.rows.length) (.int kk (j : Int)) = some (.ep 1 T.q j 0) := fun {_} => by rw [iaddrS_sl h1, Nat.zero_add]
    obtain ⟨x, hxe⟩ : ∃ x, x = T.rows[j] := ⟨_, rfl⟩
    have hxm : x ∈ T.rows := hxe ▸ List.getElem_mem h1
    have l1 : ∀ b, loadK false 1 (m ++ [.var 25 (hC h), .var 65 (inC b)]) (.ep 1 T.q j 0) = some (.ptr x.r 0) := fun b => by
      rw [loadK_ep, (hT' b).tq (hT.nn hne)]
      have : (T.rows.map fun x => [V.ptr x.r 0])[j]? = some [V.ptr x.r 0] := by simp [h1, hxe]
      simp only [Option.bind_some, if_true, this]
      rfl
    have hx := fun b => (hT' b).tr x hxm
    have w12 : (rwC x)[12]? = some (.int .i64 x.g) := rfl
    have w11 : (rwC x)[11]? = some (.mp x.mp) := rfl
    have pm : partK true 11 (rwC x) 0 = some (hv x.mask) := rfl
    rw [List.drop_eq_getElem_cons h1, ← hxe] at hf
    simp only [fndB] at hf
    simp -implicitDefEqProofs only [sims.1, fx.1, keeps.1, tick_on, calleeK, extractV, oneV, faddrK, nonnil, b_shr, b_shl, fieldK, Nat.reduceAdd, Nat.reduceMul, Nat.reduceSub, Nat.reduceEqDiff, Nat.reduceLT, Nat.reduceLeDiff, Nat.reduceBEq, Nat.reduceBNe, reduceIte, Int.reduceEq, Int.reduceLT, Int.reduceLE, Int.reduceNe, Int.reduceToNat, ltNat, d1, rv, i1, l1]
    cases e1 : decide (0 < b.1) && decide (x.g < b.2)
    · rw [e1] at hf
      simp only [cond_false] at hf
      have hlk : ∀ b, lookupV Try.prog 59 (m ++ [B.var 25 (hC h), .var 65 (inC b)]) (.mp x.mp) (hv (undH h x.mask)) false = some (vE (fndE (undH h x.mask) x.es 0)) := fun b => look_es (hx b).mp (and_lt11 (k := x.mask) hh) (ok.keys x hxm)
      have a26 := ans26 h x.mask hh (ok.masks x hxm)
      have ln0 : ∀ mm : Mem, lenV Try.prog mm 63 .nils = some (.int .i64 0) := fun _ => rfl
      have lns : ∀ (mm : Mem) (s n : Nat), lenV Try.prog mm 63 (.sl 2 s 0 n) = some (.int .i64 (n : Int)) := fun _ _ _ => rfl
      have z0 : decide ((0 : Int) = 0) = true := rfl
      refine w_quiet ?_
      cases e2 : decide (0 < b.1)
      all_goals
        (try (have e3 : decide (x.g < b.2) = false := by rw [e2] at e1; simpa using e1)
         try simp -implicitDefEqProofs only [sims.1, fx.1, keeps.1, tick_on, calleeK, extractV, oneV, faddrK, nonnil, b_shr, b_shl, fieldK, Nat.reduceAdd, Nat.reduceMul, Nat.reduceSub, Nat.reduceEqDiff, Nat.reduceLT, Nat.reduceLeDiff, Nat.reduceBEq, Nat.reduceBNe, reduceIte, Int.reduceEq, Int.reduceLT, Int.reduceLE, Int.reduceNe, Int.reduceToNat, g1, c0, c1, (hx _).r, w12, e2, e3]
         try simp -implicitDefEqProofs only [sims.1, fx.1, keeps.1, tick_on, calleeK, extractV, oneV, faddrK, nonnil, b_shr, b_shl, fieldK, Nat.reduceAdd, Nat.reduceMul, Nat.reduceSub, Nat.reduceEqDiff, Nat.reduceLT, Nat.reduceLeDiff, Nat.reduceBEq, Nat.reduceBNe, reduceIte, Int.reduceEq, Int.reduceLT, Int.reduceLE, Int.reduceNe, Int.reduceToNat, g1, c0, c1, (hx _).r, w12, e2])
      all_goals
        refine w_quiet ?_
        simp -implicitDefEqProofs only [sims.1, fx.1, keeps.1, tick_on, calleeK, extractV, oneV, faddrK, nonnil, b_shr, b_shl, fieldK, Nat.reduceAdd, Nat.reduceMul, Nat.reduceSub, Nat.reduceEqDiff, Nat.reduceLT, Nat.reduceLeDiff, Nat.reduceBEq, Nat.reduceBNe, reduceIte, Int.reduceEq, Int.reduceLT, Int.reduceLE, Int.reduceNe, Int.reduceToNat, g0, (hx _).r, w11, pm, ph]
        refine callQ_ans a26 en26 (by simp only [nfs, nf, hv, nfs_cl, Bool.and_self]) (by simp only [nf, hv, nfs_cl]) ?_
        simp -implicitDefEqProofs only [sims.1, fx.1, keeps.1, tick_on, calleeK, extractV, oneV, faddrK, nonnil, b_shr, b_shl, fieldK, Nat.reduceAdd, Nat.reduceMul, Nat.reduceSub, Nat.reduceEqDiff, Nat.reduceLT, Nat.reduceLeDiff, Nat.reduceBEq, Nat.reduceBNe, reduceIte, Int.reduceEq, Int.reduceLT, Int.reduceLE, Int.reduceNe, Int.reduceToNat, hlk]
      all_goals
        cases ef : fndE (undH h x.mask) x.es 0 with
        | none =>
          rw [ef] at hf
          simp -implicitDefEqProofs only [sims.1, fx.1, keeps.1, tick_on, calleeK, extractV, oneV, faddrK, nonnil, b_shr, b_shl, fieldK, Nat.reduceAdd, Nat.reduceMul, Nat.reduceSub, Nat.reduceEqDiff, Nat.reduceLT, Nat.reduceLeDiff, Nat.reduceBEq, Nat.reduceBNe, reduceIte, Int.reduceEq, Int.reduceLT, Int.reduceLE, Int.reduceNe, Int.reduceToNat, vE, ln0, z0, c7]
          exact ⟨(j + 1, b), by dsimp only; rw [rv]; kernel_rfl, ⟨h1, hf, by trivial⟩, by dsimp only; omega⟩
        | some z =>
          obtain ⟨i, e⟩ := z
          rw [ef] at hf
          obtain ⟨_, he1, _⟩ := fndE_at ef
          have hem := List.mem_of_getElem? he1
          have hne2 := (hx b).ne e hem
          have hrow := fun b => (hx b).s e hem
          obtain ⟨c, rest, hcr⟩ : ∃ c rest, e.ins = c :: rest := by
            cases e3 : e.ins with
            | nil => exact absurd e3 hne2
            | cons c rest => exact ⟨c, rest, rfl⟩
          simp only [hcr, List.headD_cons] at hf
          have hlen0 : decide (((e.ins.length : Nat) : Int) = 0) = false := by rw [hcr]; simp; omega
          have i2 : ∀ {kk : IntKind}, iaddrS 2 (.sl 2 e.s 0 e.ins.length) (.int kk 0) = some (.ep 2 e.s 0 0) := fun {_} => by rw [hcr]; exact iaddrS_sl0
          have l2 : ∀ (b : Int × Int) (o : Nat), loadK false 1 (m ++ [B.var 25 (hC h), .var 65 (inC b)]) (.ep 2 e.s 0 o) = partK false 1 (inC c) o := fun b o => by rw [loadK_ep, hrow b, hcr]; rfl
          have l3 : ∀ (b : Int × Int), loadK true 2 (m ++ [B.var 25 (hC h), .var 65 (inC b)]) (.ep 2 e.s 0 0) = some (inA c) := fun b => by rw [loadK_ep, hrow b, hcr]; rfl
          have q0 : partK false 1 (inC c) 0 = some (.int .i64 c.1) := rfl
          have q1 : partK false 1 (inC c) 1 = some (.int .i64 c.2) := rfl
          have hstb : storeK 2 (m ++ [B.var 25 (hC h), .var 65 (inC b)]) (.ptr (m.length + 1) 0) (inA c) = some (m ++ [.var 25 (hC h), .var 65 (inC c)]) := by
            have k1 : (cellsOfV (inA c)).length = 2 ∧ cellsB (inA c) = true := ⟨rfl, rfl⟩
            have k6 : 0 + (cellsOfV (inA c)).length ≤ (inC b).length := Nat.le_refl 2
            have k7 : splice (inC b) 0 (cellsOfV (inA c)) = inC c := rfl
            unfold storeK
            rw [if_pos k1]
            simp only [g1 b]
            rw [if_pos k6, k7]
            simp
          simp -implicitDefEqProofs only [sims.1, fx.1, keeps.1, tick_on, calleeK, extractV, oneV, faddrK, nonnil, b_shr, b_shl, fieldK, Nat.reduceAdd, Nat.reduceMul, Nat.reduceSub, Nat.reduceEqDiff, Nat.reduceLT, Nat.reduceLeDiff, Nat.reduceBEq, Nat.reduceBNe, reduceIte, Int.reduceEq, Int.reduceLT, Int.reduceLE, Int.reduceNe, Int.reduceToNat, vE, lns, hlen0]
          refine w_quiet ?_
          simp only [btr] at hf
          cases eA : decide (b.1 = 0)
          · cases eB : decide (b.2 < c.2)
            · cases eC : decide (c.2 = b.2)
              · simp only [eA, eB, eC, Bool.true_or, Bool.false_or, Bool.or_true, Bool.or_false, Bool.true_and, Bool.false_and, Bool.and_false, Bool.and_true, cond_true, cond_false] at hf
                simp -implicitDefEqProofs only [sims.1, fx.1, keeps.1, tick_on, calleeK, extractV, oneV, faddrK, nonnil, b_shr, b_shl, fieldK, Nat.reduceAdd, Nat.reduceMul, Nat.reduceSub, Nat.reduceEqDiff, Nat.reduceLT, Nat.reduceLeDiff, Nat.reduceBEq, Nat.reduceBNe, reduceIte, Int.reduceEq, Int.reduceLT, Int.reduceLE, Int.reduceNe, Int.reduceToNat, g1, c0, c1, i2, l2, l3, q0, q1, eA, eB, eC, hstb, c7]
                exact ⟨(j + 1, b), by dsimp only; rw [rv]; kernel_rfl, ⟨h1, hf, by trivial⟩, by dsimp only; omega⟩
              · cases eD : decide (c.1 < b.1)
                · simp only [eA, eB, eC, eD, Bool.true_or, Bool.false_or, Bool.or_true, Bool.or_false, Bool.true_and, Bool.false_and, Bool.and_false, Bool.and_true, cond_true, cond_false] at hf
                  simp -implicitDefEqProofs only [sims.1, fx.1, keeps.1, tick_on, calleeK, extractV, oneV, faddrK, nonnil, b_shr, b_shl, fieldK, Nat.reduceAdd, Nat.reduceMul, Nat.reduceSub, Nat.reduceEqDiff, Nat.reduceLT, Nat.reduceLeDiff, Nat.reduceBEq, Nat.reduceBNe, reduceIte, Int.reduceEq, Int.reduceLT, Int.reduceLE, Int.reduceNe, Int.reduceToNat, g1, c0, c1, i2, l2, l3, q0, q1, eA, eB, eC, eD, hstb, c7]
                  exact ⟨(j + 1, b), by dsimp only; rw [rv]; kernel_rfl, ⟨h1, hf, by trivial⟩, by dsimp only; omega⟩
                · simp only [eA, eB, eC, eD, Bool.true_or, Bool.false_or, Bool.or_true, Bool.or_false, Bool.true_and, Bool.false_and, Bool.and_false, Bool.and_true, cond_true, cond_false] at hf
                  simp -implicitDefEqProofs only [sims.1, fx.1, keeps.1, tick_on, calleeK, extractV, oneV, faddrK, nonnil, b_shr, b_shl, fieldK, Nat.reduceAdd, Nat.reduceMul, Nat.reduceSub, Nat.reduceEqDiff, Nat.reduceLT, Nat.reduceLeDiff, Nat.reduceBEq, Nat.reduceBNe, reduceIte, Int.reduceEq, Int.reduceLT, Int.reduceLE, Int.reduceNe, Int.reduceToNat, g1, c0, c1, i2, l2, l3, q0, q1, eA, eB, eC, eD, hstb, c7]
                  exact ⟨(j + 1, c), by dsimp only; rw [rv]; kernel_rfl, ⟨h1, hf, by trivial⟩, by dsimp only; omega⟩
            · simp only [eA, eB, Bool.true_or, Bool.false_or, Bool.or_true, Bool.or_false, Bool.true_and, Bool.false_and, Bool.and_false, Bool.and_true, cond_true, cond_false] at hf
              simp -implicitDefEqProofs only [sims.1, fx.1, keeps.1, tick_on, calleeK, extractV, oneV, faddrK, nonnil, b_shr, b_shl, fieldK, Nat.reduceAdd, Nat.reduceMul, Nat.reduceSub, Nat.reduceEqDiff, Nat.reduceLT, Nat.reduceLeDiff, Nat.reduceBEq, Nat.reduceBNe, reduceIte, Int.reduceEq, Int.reduceLT, Int.reduceLE, Int.reduceNe, Int.reduceToNat, g1, c0, c1, i2, l2, l3, q0, q1, eA, eB, hstb, c7]
              exact ⟨(j + 1, c), by dsimp only; rw [rv]; kernel_rfl, ⟨h1, hf, by trivial⟩, by dsimp only; omega⟩
          · simp only [eA, Bool.true_or, Bool.false_or, Bool.or_true, Bool.or_false, Bool.true_and, Bool.false_and, Bool.and_false, Bool.and_true, cond_true, cond_false] at hf
            simp -implicitDefEqProofs only [sims.1, fx.1, keeps.1, tick_on, calleeK, extractV, oneV, faddrK, nonnil, b_shr, b_shl, fieldK, Nat.reduceAdd, Nat.reduceMul, Nat.reduceSub, Nat.reduceEqDiff, Nat.reduceLT, Nat.reduceLeDiff, Nat.reduceBEq, Nat.reduceBNe, reduceIte, Int.reduceEq, Int.reduceLT, Int.reduceLE, Int.reduceNe, Int.reduceToNat, g1, c0, c1, i2, l2, l3, q0, q1, eA, hstb, c7]
            exact ⟨(j + 1, c), by dsimp only; rw [rv]; kernel_rfl, ⟨h1, hf, by trivial⟩, by dsimp only; omega⟩
    · rw [Bool.and_eq_true] at e1
      simp only [e1.1, e1.2, Bool.and_self, cond_true] at hf
      refine w_quiet ?_
      simp -implicitDefEqProofs only [sims.1, fx.1, keeps.1, tick_on, calleeK, extractV, oneV, faddrK, nonnil, b_shr, b_shl, fieldK, Nat.reduceAdd, Nat.reduceMul, Nat.reduceSub, Nat.reduceEqDiff, Nat.reduceLT, Nat.reduceLeDiff, Nat.reduceBEq, Nat.reduceBNe, reduceIte, Int.reduceEq, Int.reduceLT, Int.reduceLE, Int.reduceNe, Int.reduceToNat, g1, c0, c1, (hx _).r, w12, e1.1, e1.2]
      refine w_quiet ?_
      simp -implicitDefEqProofs only [sims.1, fx.1, keeps.1, tick_on, calleeK, extractV, oneV, faddrK, nonnil, b_shr, b_shl, fieldK, Nat.reduceAdd, Nat.reduceMul, Nat.reduceSub, Nat.reduceEqDiff, Nat.reduceLT, Nat.reduceLeDiff, Nat.reduceBEq, Nat.reduceBNe, reduceIte, Int.reduceEq, Int.reduceLT, Int.reduceLE, Int.reduceNe, Int.reduceToNat, g1, c0]
      rw [hf]
      exact ⟨b, rfl⟩
  · have d1 : decide (j < T.rows.length) = false := by simpa using h1
    rw [List.drop_eq_nil_of_le h1] at hf
    simp -implicitDefEqProofs only [sims.1, fx.1, keeps.1, tick_on, calleeK, extractV, oneV, faddrK, nonnil, b_shr, b_shl, fieldK, Nat.reduceAdd, Nat.reduceMul, Nat.reduceSub, Nat.reduceEqDiff, Nat.reduceLT, Nat.reduceLeDiff, Nat.reduceBEq, Nat.reduceBNe, reduceIte, Int.reduceEq, Int.reduceLT, Int.reduceLE, Int.reduceNe, Int.reduceToNat, ltNat, d1]
    refine w_quiet ?_
    simp -implicitDefEqProofs only [sims.1, fx.1, keeps.1, tick_on, calleeK, extractV, oneV, faddrK, nonnil, b_shr, b_shl, fieldK, Nat.reduceAdd, Nat.reduceMul, Nat.reduceSub, Nat.reduceEqDiff, Nat.reduceLT, Nat.reduceLeDiff, Nat.reduceBEq, Nat.reduceBNe, reduceIte, Int.reduceEq, Int.reduceLT, Int.reduceLE, Int.reduceNe, Int.reduceToNat, g1, c0]
    rw [hf]
    exact ⟨b, rfl⟩
end Go.Proofs.Ytffhmbdpmpgddaa
