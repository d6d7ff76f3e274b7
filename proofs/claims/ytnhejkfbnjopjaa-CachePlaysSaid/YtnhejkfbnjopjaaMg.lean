/- A new cache; headers that numbers tell. No condition. -/
import Derived.Test.YtnhejkfbnjopjaaMf
namespace Go.Proofs.Ytnhejkfbnjopjaa
open Go Ab
set_option linter.unusedSimpArgs false
set_option linter.unusedVariables false
set_option maxRecDepth 20000

/-- What is left of memory behind a call whose answer bears names. -/
def Trim2 (K0 : Nat) (Q : CR → Prop) (r : CR) : Prop := ∃ v m2 e' m', r = .ret v m2 ∧ canon K0 [0] (mkEnv [(0, v)]) m2 = some (e', m') ∧ Q (.ret (e' 0) m')
theorem Snd_trim2 {P : Program} {f : FuncId} {vs : List V} {m : Mem} {Q : CR → Prop} (h : Snd P f vs m (Trim2 m.length Q)) : Snd P f vs m Q := by
  intro ρ I w xs hr hl hrt
  refine (h ρ I w xs hr hl hrt).mono ?_
  rintro e w' ⟨r, ⟨v, m2, e', m', rfl, hc, hq⟩, x, ρ', I', rfl, k1, k2, k3⟩
  have k1 : Rep ρ' I' m2 w' := k1
  have k2 : Step ρ I m w ρ' I' m2 w' := k2
  have k3 : RV m2.length ρ' I' w' v x := k3
  have hen : REnv m2.length ρ' I' w' (mkEnv [(0, v)]) { tmps := #[x], defers := [] } := by
    intro t
    rw [mkEnv_cons]
    by_cases ht : 0 = t
    · subst ht
      rw [if_pos rfl]
      exact k3
    · rw [if_neg ht]
      simp [mkEnv, RV]
  obtain ⟨ρ2, r1, r2, r3⟩ := canon_sound k1 hen hc
  exact ⟨_, hq, x, ρ2, I', rfl, r1, ((k2.fr (Nat.le_refl _)).trans r3).step, r2 0⟩

theorem closedL3 {m : Mem} {n0 n1 n2 : Nat} {b0 : B} {ty s : Nat} {es : List (List V)} {ms : List (V × V)} (h0 : m[n0]? = some b0) (h1 : m[n1]? = some (.row ty s es)) (h2 : m[n2]? = some (.map ms)) (hd : nodupB [n0, n1, n2] = true)
    (hb : inDB (fun k => [n0, n1, n2].contains k) b0 = true) (he : nfss es = true) (hm : nfp ms = true) : closedB [n0, n1, n2] m = true := by
  have k1 : inDB (fun k => [n0, n1, n2].contains k) (.row ty s es) = true := he
  have k2 : inDB (fun k => [n0, n1, n2].contains k) (.map ms) = true := hm
  have g : ∀ {n : Nat} {b : B}, m[n]? = some b → m.getD n .dead = b ∧ n < m.length := fun h => ⟨by simp [List.getD, h], (List.getElem?_eq_some_iff.1 h).1⟩
  obtain ⟨a0, l0⟩ := g h0
  obtain ⟨a1, l1⟩ := g h1
  obtain ⟨a2, l2⟩ := g h2
  simp only [closedB, List.all_cons, List.all_nil, a0, a1, a2, hb, k1, k2, hd]
  simp [l0, l1, l2]

theorem ze69 : zeroE Try.prog 69 = some (enC e0, 15, 112) := by kernel_rfl
theorem un60 : Try.prog.underlying 60 = some (.slice 69) := by kernel_rfl
theorem bu63 (n k j : Nat) : buildV Try.prog 63 [(0, .sl 15 k 0 n), (1, .mp j)] = some (.agg [.sl 15 k 0 n, .mp j, .int .i64 0, .int .i64 0]) := by kernel_rfl
def sz (s : Int) : Nat := (min (max s 0) 1024).toNat
theorem sz_le (s : Int) : sz s ≤ 1024 := by unfold sz; omega
theorem mk60 (m : Mem) (n : Nat) (h : n ≤ 1024) : makeSliceV Try.prog 60 (.int .i64 (n : Int)) (.int .i64 (n : Int)) m = some (.sl 15 m.length 0 n, m ++ [.row 69 15 ((List.replicate n e0).map enC)]) := by
  simp only [makeSliceV, un60, ze69]
  rw [if_pos ⟨by trivial, by omega, by omega, by omega⟩]
  simp
theorem maxE (s : Int) : minmaxV true (.int .i64 s) (.int .i64 0) = some (.int .i64 (if 0 > s then 0 else s)) := by simp [minmaxV]
theorem minE (s : Int) : minmaxV false (.int .i64 s) (.int .i64 1024) = some (.int .i64 (if 1024 < s then 1024 else s)) := by simp [minmaxV]
theorem szE (s : Int) : (if 1024 < (if 0 > s then 0 else s) then (1024 : Int) else (if 0 > s then 0 else s)) = (sz s : Int) := by
  unfold sz
  split <;> split at * <;> omega

theorem snd27 (s : Int) : Snd Try.prog 27 [.int .i64 s] [] fun r => r = .ret (.ptr 0 0) (caM (List.replicate (sz s) e0) [] 0 0) := by
  refine Snd_trim2 (Snd_of_W fol rfl rfl (by kernel_rfl) (by kernel_rfl) ?_)
  have hs := sz_le s
  simp -implicitDefEqProofs only [sims.1, fx.1, tick_on, calleeK, List.getElem?_toArray, extractV, oneV, faddrK, nonnil, b_shr, b_shl, eq_self, beq_self_eq_true, fieldK, Option.bind_some, Option.map_some, Option.bind_none, Option.map_none, List.map_cons, List.map_nil, List.getD_cons_zero, List.getD_cons_succ, List.getD_nil, List.length_nil, List.length_cons, List.length_set, List.nil_append, List.cons_append, List.append_nil, List.getElem?_cons_zero, List.getElem?_cons_succ, List.getElem?_nil, List.set_cons_zero, List.set_cons_succ, Nat.reduceAdd, Nat.zero_add, Nat.add_zero, Nat.mul_one, Nat.mul_zero, Nat.zero_mul, Nat.reduceMul, Nat.reduceSub, Nat.reduceEqDiff, Nat.reduceLT, Nat.reduceLeDiff, Nat.reduceBEq, Nat.reduceBNe, Nat.succ_ne_self, reduceIte, if_true, if_false, ite_self, decide_true, decide_false, Bool.not_true, Bool.not_false, Bool.and_true, Bool.true_and, Bool.and_false, Bool.false_and, Bool.or_true, Bool.true_or, Bool.or_false, Bool.false_or, cond_true, cond_false, Int.reduceEq, Int.reduceLT, Int.reduceLE, Int.reduceNe, Int.reduceToNat, maxE, minE, szE, mk60 _ _ hs, bu63]
  refine ⟨_, _, _, [.var 63 [.sl 15 1 0 (sz s), .mp 2, .int .i64 0, .int .i64 0], .row 69 15 ((List.replicate (sz s) e0).map enC), .map []], rfl, canon_of [.ptr 2 0] [2, 0, 1] (by kernel_rfl) (by kernel_rfl) rfl ?_ rfl rfl (by kernel_rfl), ?_⟩
  · have := closedL3 (m := [.row 69 15 ((List.replicate (sz s) e0).map enC), .map [], .var 63 [.sl 15 0 0 (sz s), .mp 1, .int .i64 0, .int .i64 0]]) (n0 := 2) (n1 := 0) (n2 := 1) rfl rfl rfl rfl rfl (nfs_ens _) rfl
    rw [this]
    rfl
  · simp only [caM, caV, List.length_replicate]
    rfl

/-! ### Headers of numbers -/
def hN (n : Nat) : Hd := fun i => if i = 2 then 2048 else if i = 1 then n else 0
theorem e_hN (n : Nat) : ((((cl .u64 11 fun _ => 0).set 2 (.int .u64 2048)).set 1 (.int .u64 (n : Int))).set 9 (.int .u64 0)) = hdC (hN n) := by kernel_rfl
theorem hN_lt {n : Nat} (h : n < 1000) : U64h (hN n) := by
  intro i _
  unfold hN
  split
  · omega
  · split <;> omega
theorem splice_z (h : Hd) : splice (cl .u64 11 fun _ => 0) 0 (hdC h) = hdC h := splice_all (by simp [hdC])
theorem st_hd {m : Mem} {n off : Nat} (h : Hd) : storeK 11 m (.ptr n off) (.agg (hdC h)) = (m[n]?).bind fun b => match b with
    | .var ty l => if off + 11 ≤ l.length then some (m.set n (.var ty (splice l off (hdC h)))) else none
    | _ => none := storeK_agg (hd_len h)
theorem ans39_1 : Ans Try.prog 39 [.int .i64 1] (hdA (hN 1)) := by
  refine Snd_of_W fol rfl rfl (by kernel_rfl) (by kernel_rfl) ?_
  have q1 : bits .and .i64 1 255 = 1 := by kernel_rfl
  have q2 : (1 : Int).fdiv (2 ^ (min 8 IntKind.i64.bits)) = 0 := by kernel_rfl
  have q3 : bits .and .i64 0 3 = 0 := by kernel_rfl
  have q4 : IntKind.u64.wrap 1 = 1 := by kernel_rfl
  have q5 : IntKind.u64.wrap 0 = 0 := by kernel_rfl
  have q6 : ((((cl .u64 11 fun _ => 0).set 2 (.int .u64 2048)).set 1 (.int .u64 1)).set 9 (.int .u64 0)) = hdC (hN 1) := e_hN 1
  simp -implicitDefEqProofs only [sims.1, fx.1, tick_on, calleeK, List.getElem?_toArray, extractV, oneV, faddrK, nonnil, b_shr, b_shl, eq_self, beq_self_eq_true, fieldK, Option.bind_some, Option.map_some, Option.bind_none, Option.map_none, List.map_cons, List.map_nil, List.getD_cons_zero, List.getD_cons_succ, List.getD_nil, List.length_nil, List.length_cons, List.length_set, List.nil_append, List.cons_append, List.append_nil, List.getElem?_cons_zero, List.getElem?_cons_succ, List.getElem?_nil, List.set_cons_zero, List.set_cons_succ, Nat.reduceAdd, Nat.zero_add, Nat.add_zero, Nat.mul_one, Nat.mul_zero, Nat.zero_mul, Nat.reduceMul, Nat.reduceSub, Nat.reduceEqDiff, Nat.reduceLT, Nat.reduceLeDiff, Nat.reduceBEq, Nat.reduceBNe, Nat.succ_ne_self, reduceIte, if_true, if_false, ite_self, decide_true, decide_false, Bool.not_true, Bool.not_false, Bool.and_true, Bool.true_and, Bool.and_false, Bool.false_and, Bool.or_true, Bool.true_or, Bool.or_false, Bool.false_or, cond_true, cond_false, Int.reduceEq, Int.reduceLT, Int.reduceLE, Int.reduceNe, Int.reduceToNat, iaL1, iaL2, iaL9, q1, q2, q3, q4, q5, q6, cl_length, part_hd, st_hd, splice_z]
  exact ans_ret rfl
theorem ans39_2 : Ans Try.prog 39 [.int .i64 2] (hdA (hN 2)) := by
  refine Snd_of_W fol rfl rfl (by kernel_rfl) (by kernel_rfl) ?_
  have q1 : bits .and .i64 2 255 = 2 := by kernel_rfl
  have q2 : (2 : Int).fdiv (2 ^ (min 8 IntKind.i64.bits)) = 0 := by kernel_rfl
  have q3 : bits .and .i64 0 3 = 0 := by kernel_rfl
  have q4 : IntKind.u64.wrap 2 = 2 := by kernel_rfl
  have q5 : IntKind.u64.wrap 0 = 0 := by kernel_rfl
  have q6 : ((((cl .u64 11 fun _ => 0).set 2 (.int .u64 2048)).set 1 (.int .u64 2)).set 9 (.int .u64 0)) = hdC (hN 2) := e_hN 2
  simp -implicitDefEqProofs only [sims.1, fx.1, tick_on, calleeK, List.getElem?_toArray, extractV, oneV, faddrK, nonnil, b_shr, b_shl, eq_self, beq_self_eq_true, fieldK, Option.bind_some, Option.map_some, Option.bind_none, Option.map_none, List.map_cons, List.map_nil, List.getD_cons_zero, List.getD_cons_succ, List.getD_nil, List.length_nil, List.length_cons, List.length_set, List.nil_append, List.cons_append, List.append_nil, List.getElem?_cons_zero, List.getElem?_cons_succ, List.getElem?_nil, List.set_cons_zero, List.set_cons_succ, Nat.reduceAdd, Nat.zero_add, Nat.add_zero, Nat.mul_one, Nat.mul_zero, Nat.zero_mul, Nat.reduceMul, Nat.reduceSub, Nat.reduceEqDiff, Nat.reduceLT, Nat.reduceLeDiff, Nat.reduceBEq, Nat.reduceBNe, Nat.succ_ne_self, reduceIte, if_true, if_false, ite_self, decide_true, decide_false, Bool.not_true, Bool.not_false, Bool.and_true, Bool.true_and, Bool.and_false, Bool.false_and, Bool.or_true, Bool.true_or, Bool.or_false, Bool.false_or, cond_true, cond_false, Int.reduceEq, Int.reduceLT, Int.reduceLE, Int.reduceNe, Int.reduceToNat, iaL1, iaL2, iaL9, q1, q2, q3, q4, q5, q6, cl_length, part_hd, st_hd, splice_z]
  exact ans_ret rfl
theorem ans39_3 : Ans Try.prog 39 [.int .i64 3] (hdA (hN 3)) := by
  refine Snd_of_W fol rfl rfl (by kernel_rfl) (by kernel_rfl) ?_
  have q1 : bits .and .i64 3 255 = 3 := by kernel_rfl
  have q2 : (3 : Int).fdiv (2 ^ (min 8 IntKind.i64.bits)) = 0 := by kernel_rfl
  have q3 : bits .and .i64 0 3 = 0 := by kernel_rfl
  have q4 : IntKind.u64.wrap 3 = 3 := by kernel_rfl
  have q5 : IntKind.u64.wrap 0 = 0 := by kernel_rfl
  have q6 : ((((cl .u64 11 fun _ => 0).set 2 (.int .u64 2048)).set 1 (.int .u64 3)).set 9 (.int .u64 0)) = hdC (hN 3) := e_hN 3
  simp -implicitDefEqProofs only [sims.1, fx.1, tick_on, calleeK, List.getElem?_toArray, extractV, oneV, faddrK, nonnil, b_shr, b_shl, eq_self, beq_self_eq_true, fieldK, Option.bind_some, Option.map_some, Option.bind_none, Option.map_none, List.map_cons, List.map_nil, List.getD_cons_zero, List.getD_cons_succ, List.getD_nil, List.length_nil, List.length_cons, List.length_set, List.nil_append, List.cons_append, List.append_nil, List.getElem?_cons_zero, List.getElem?_cons_succ, List.getElem?_nil, List.set_cons_zero, List.set_cons_succ, Nat.reduceAdd, Nat.zero_add, Nat.add_zero, Nat.mul_one, Nat.mul_zero, Nat.zero_mul, Nat.reduceMul, Nat.reduceSub, Nat.reduceEqDiff, Nat.reduceLT, Nat.reduceLeDiff, Nat.reduceBEq, Nat.reduceBNe, Nat.succ_ne_self, reduceIte, if_true, if_false, ite_self, decide_true, decide_false, Bool.not_true, Bool.not_false, Bool.and_true, Bool.true_and, Bool.and_false, Bool.false_and, Bool.or_true, Bool.true_or, Bool.or_false, Bool.false_or, cond_true, cond_false, Int.reduceEq, Int.reduceLT, Int.reduceLE, Int.reduceNe, Int.reduceToNat, iaL1, iaL2, iaL9, q1, q2, q3, q4, q5, q6, cl_length, part_hd, st_hd, splice_z]
  exact ans_ret rfl
end Go.Proofs.Ytnhejkfbnjopjaa
