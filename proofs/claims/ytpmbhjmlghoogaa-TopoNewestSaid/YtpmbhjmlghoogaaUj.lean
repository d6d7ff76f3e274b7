/- Switches join the map. No condition. -/
import Derived.Test.YtpmbhjmlghoogaaUi
namespace Go.Proofs.Ytpmbhjmlghoogaa
open Go Ab
set_option linter.unusedSimpArgs false
set_option linter.unusedVariables false
set_option maxRecDepth 20000

theorem neq16 (s p : Nat) : decide ((s : Int) = (p : Int)) = decide (s = p) := by rw [Bool.eq_iff_iff, decide_eq_true_eq, decide_eq_true_eq]; omega
theorem nfs_u16 : ∀ l : List Nat, nfss (l.map u16C) = true
  | [] => rfl
  | a :: r => by simp [nfss, nfs, nf, u16C, nfs_u16 r]
theorem nfB_u16 (l : List Nat) : nfB (rowU l) = true := nfs_u16 l
theorem at_conc {α : Type} {l : List α} {a : α} {k : Nat} (h : k = l.length) : (l ++ [a])[k]? = some a := by subst h; exact at_end l a

theorem pe24 (n o : Nat) (env : Env) : binV Try.prog .eql 24 (.ptr n o) (evO env (.const (.pointer none))) = some (.bool false) := rfl
theorem callD_same {P : Program} {f : FuncId} {vs : List V} {m : Mem} {K Kp : V → Mem → Prop} (v : V) (he : enterable P f = true) (h : Snd P f vs m fun r => r = .ret v m) (hk : K v m) : callD P f vs m K Kp := callD_all h he hk
theorem bx27 (m : Mem) (x : Int) : newV 27 m (.int .u16 x) = some (.ptr m.length 0, m ++ [.var 27 [.int .u16 x]]) := rfl
theorem st_end {pre : Mem} (ty s p : Nat) : storeK 2 (pre ++ [.var ty (cl .u16 2 fun _ => 0)]) (.ptr pre.length 0) (spA s p) = some (pre ++ [.var ty (spC s p)]) := by
  have h : (pre ++ [B.var ty (cl .u16 2 fun _ => 0)])[pre.length]? = some (B.var ty (cl .u16 2 fun _ => 0)) := at_end _ _
  have h1 : (cellsOfV (spA s p)).length = 2 ∧ cellsB (spA s p) = true := ⟨rfl, rfl⟩
  unfold storeK
  rw [if_pos h1]
  simp only [h]
  have h6 : 0 + (cellsOfV (spA s p)).length ≤ (cl .u16 2 fun _ => (0 : Int)).length := Nat.le_refl 2
  rw [if_pos h6, set_end]
  rfl
theorem gtF_none {s p : Nat} : ∀ {gs : List Gt} {i : Nat}, (∀ g ∈ gs, ¬ (s = g.1.1 ∧ p = g.1.2)) → gtF s p gs i = none
  | [], _, _ => rfl
  | g :: r, i, h => by
    have h1 : decide (s = g.1.1 ∧ p = g.1.2) = false := by simpa using h g (by simp)
    simp only [gtF, h1, cond_false]
    exact gtF_none fun q hq => h q (by simp [hq])
theorem put_gt {s p : Nat} (hs : s < 65536) (hp : p < 65536) {gs : List Gt} (hgs : GtOk gs) (hf : gtF s p gs 0 = none) (e d : Bool) (r : B) (m : Mem) :
    putV Try.prog 67 (r :: gtR gs :: m) (.mp 1) (.agg (spC s p)) (.agg [.bool e, .bool d]) = some (r :: gtR (gs ++ [((s, p), (e, d))]) :: m) := by
  have h1 := findV_gt hs hp (i := 0) hgs
  rw [hf] at h1
  have h2 := key_sp hs hp
  unfold spA at h1 h2
  have h3 : (r :: B.map (gtM gs) (List.range gs.length) gs.length :: m)[1]? = some (B.map (gtM gs) (List.range gs.length) gs.length) := rfl
  simp only [putV, un67, h2, cond_true, gtR, gtB, h3, h1, Option.map_none]
  simp only [gtM, List.map_append, List.map_cons, List.map_nil, List.length_append, List.length_cons, List.length_nil, List.range_succ, Nat.zero_add]
  rfl
theorem ld_u16 {m : Mem} {q j : Nat} {l : List Nat} (hm : m[q]? = some (rowU l)) (h : j < l.length) : loadK false 1 m (.ep 1 q j 0) = some (.int .u16 (l[j] : Int)) := by
  have h1 : (l.map u16C)[j]? = some (u16C l[j]) := by simp [h]
  rw [loadK_ep, hm]
  simp only [rowU, Option.bind_some, if_true, h1]
  rfl
theorem GtOk_app {gs : List Gt} {l : List Nat} {s : Nat} {d : Bool × Bool} (h : GtOk gs) (hs : s < 65536) (hl : ∀ x ∈ l, x < 65536) : GtOk (gs ++ l.map fun p => ((s, p), d)) := by
  intro g hg
  rcases List.mem_append.1 hg with hg | hg
  · exact h g hg
  · obtain ⟨p, hp, rfl⟩ := List.mem_map.1 hg
    exact ⟨hs, hl p hp⟩
theorem lay_closed1 {n a t : Int} {g s h b : B} (hg : nfB g = true) (hs : nfB s = true) (hh : nfB h = true) (hb : nfB b = true) : closedB (List.range (lay n a t g s h ++ [b]).length) (lay n a t g s h ++ [b]) = true := by
  have e : List.range (lay n a t g s h ++ [b]).length = [0, 1, 2, 3, 4] := rfl
  rw [e]
  unfold closedB lay
  simp only [List.cons_append, List.nil_append, List.all_cons, List.all_nil, List.getD_cons_zero, List.getD_cons_succ, nfB_inDB _ hg, nfB_inDB _ hs, nfB_inDB _ hh, nfB_inDB _ hb, Bool.and_true]
  rfl
set_option maxHeartbeats 2000000 in
theorem snd8A {n a t : Int} {gs : List Gt} {H : B} {is : List Nat} {sw : Nat} (hgs : GtOk gs) (hsw : sw < 65536) (his : ∀ x ∈ is, x < 65536) (hfr : ∀ g ∈ gs, g.1.1 ≠ sw) (hnd : is.Nodup) (hl : is.length < 1000) (hH : nfB H = true)
    (hN : Snd Try.prog 20 [.int .u16 (sw : Int), .nils, .sl 1 0 0 is.length, .int .i64 0, .int .i64 0] [rowU is] fun q => q = .ret (.tup [.unk, .int .i64 0]) [rowU is]) :
    Snd Try.prog 8 [.ptr 0 0, .int .u16 (sw : Int), .nils, .sl 1 4 0 is.length] (lay n a t (gtR gs) (.map [] [] 0) H ++ [rowU is]) fun r => r = .ret (.tup []) (lay n a t (gtR (gs ++ is.map fun p => ((sw, p), (false, false)))) (.map [] [] 0) H ++ [rowU is]) := by
  refine Snd_dropW rfl ?_ rfl ?_
  · exact lay_closed1 (nfB_gt _ _ _) rfl hH (nfB_u16 _)
  refine Snd_of_W fol rfl rfl (by kernel_rfl) (by kernel_rfl) ?_
  unfold lay
  simp -implicitDefEqProofs only [sims.1, fx.1, tick_on, calleeK, List.getElem?_toArray, extractV, oneV, faddrK, nonnil, b_shr, b_shl, eq_self, beq_self_eq_true, fieldK, Option.bind_some, Option.map_some, Option.bind_none, Option.map_none, List.map_cons, List.map_nil, List.getD_cons_zero, List.getD_cons_succ, List.getD_nil, List.length_nil, List.length_cons, List.length_set, List.nil_append, List.cons_append, List.append_nil, List.getElem?_cons_zero, List.getElem?_cons_succ, List.getElem?_nil, List.set_cons_zero, List.set_cons_succ, Nat.reduceAdd, Nat.zero_add, Nat.add_zero, Nat.mul_one, Nat.mul_zero, Nat.zero_mul, Nat.reduceMul, Nat.reduceSub, Nat.reduceEqDiff, Nat.reduceLT, Nat.reduceLeDiff, Nat.reduceBEq, Nat.reduceBNe, Nat.succ_ne_self, reduceIte, if_true, if_false, ite_self, decide_true, decide_false, Bool.not_true, Bool.not_false, Bool.and_true, Bool.true_and, Bool.and_false, Bool.false_and, Bool.or_true, Bool.true_or, Bool.or_false, Bool.false_or, cond_true, cond_false, Int.reduceEq, Int.reduceLT, Int.reduceLE, Int.reduceNe, Int.reduceToNat, bx27, pe24]
  refine callD_same (.tup [.unk, .int .i64 0]) en20 ?h ?k
  case h => exact still_flat (mv := [rowU is]) (vs1 := [.int .u16 (sw : Int), .nils, .sl 1 0 0 is.length, .int .i64 0, .int .i64 0]) [4] rfl rfl rfl (nfM_cons (nfB_u16 _) rfl) rfl rfl rfl hN
  have rg : ∀ b0 r, rangeV Try.prog 67 (b0 :: gtR gs :: r) (.mp 1) = some (.ptr (r.length + 2) 0, (b0 :: gtR gs :: r) ++ [.iter 1 gs.length [] gs.length]) := fun _ _ => rg67
  simp -implicitDefEqProofs only [sims.1, fx.1, tick_on, calleeK, List.getElem?_toArray, extractV, oneV, faddrK, nonnil, b_shr, b_shl, eq_self, beq_self_eq_true, fieldK, Option.bind_some, Option.map_some, Option.bind_none, Option.map_none, List.map_cons, List.map_nil, List.getD_cons_zero, List.getD_cons_succ, List.getD_nil, List.length_nil, List.length_cons, List.length_set, List.nil_append, List.cons_append, List.append_nil, List.getElem?_cons_zero, List.getElem?_cons_succ, List.getElem?_nil, List.set_cons_zero, List.set_cons_succ, Nat.reduceAdd, Nat.zero_add, Nat.add_zero, Nat.mul_one, Nat.mul_zero, Nat.zero_mul, Nat.reduceMul, Nat.reduceSub, Nat.reduceEqDiff, Nat.reduceLT, Nat.reduceLeDiff, Nat.reduceBEq, Nat.reduceBNe, Nat.succ_ne_self, reduceIte, if_true, if_false, ite_self, decide_true, decide_false, Bool.not_true, Bool.not_false, Bool.and_true, Bool.true_and, Bool.and_false, Bool.false_and, Bool.or_true, Bool.true_or, Bool.or_false, Bool.false_or, cond_true, cond_false, Int.reduceEq, Int.reduceLT, Int.reduceLE, Int.reduceNe, Int.reduceToNat, rg]
  refine W_loopM (fun _ : List Nat => [(30, .ptr 6 0), (2, .nils), (3, .sl 1 4 0 is.length), (0, .ptr 0 0), (5, .ptr 5 0)])
    (fun seen mm => ∃ ex, mm = .var 71 [.int .u64 n, .int .i64 a, .int .i64 t, .mp 1, .mp 2, .mp 3] :: gtR gs :: .map [] [] 0 :: H :: rowU is :: .var 27 [.int .u16 (sw : Int)] :: .iter 1 gs.length seen gs.length :: ex) (fun seen => left gs.length seen) []
    (by kernel_rfl) ⟨[], rfl⟩ ?_
  rintro seen mm ⟨ex, rfl⟩
  obtain ⟨l, hn, hall⟩ := next_gt (m := .var 71 [.int .u64 n, .int .i64 a, .int .i64 t, .mp 1, .mp 2, .mp 3] :: gtR gs :: .map [] [] 0 :: H :: rowU is :: .var 27 [.int .u16 (sw : Int)] :: .iter 1 gs.length seen gs.length :: ex) (r := 6) (n := 1) (gs := gs) (seen := seen) rfl rfl
  simp -implicitDefEqProofs only [sims.1, fx.1, tick_on, calleeK, List.getElem?_toArray, extractV, oneV, faddrK, nonnil, b_shr, b_shl, eq_self, beq_self_eq_true, fieldK, Option.bind_some, Option.map_some, Option.bind_none, Option.map_none, List.map_cons, List.map_nil, List.getD_cons_zero, List.getD_cons_succ, List.getD_nil, List.length_nil, List.length_cons, List.length_set, List.nil_append, List.cons_append, List.append_nil, List.getElem?_cons_zero, List.getElem?_cons_succ, List.getElem?_nil, List.set_cons_zero, List.set_cons_succ, Nat.reduceAdd, Nat.zero_add, Nat.add_zero, Nat.mul_one, Nat.mul_zero, Nat.zero_mul, Nat.reduceMul, Nat.reduceSub, Nat.reduceEqDiff, Nat.reduceLT, Nat.reduceLeDiff, Nat.reduceBEq, Nat.reduceBNe, Nat.succ_ne_self, reduceIte, if_true, if_false, ite_self, decide_true, decide_false, Bool.not_true, Bool.not_false, Bool.and_true, Bool.true_and, Bool.and_false, Bool.false_and, Bool.or_true, Bool.true_or, Bool.or_false, Bool.false_or, cond_true, cond_false, Int.reduceEq, Int.reduceLT, Int.reduceLE, Int.reduceNe, Int.reduceToNat, hn]
  intro p hp
  rcases hall p hp with rfl | ⟨i, hi, hs, rfl⟩
  · simp -implicitDefEqProofs only [sims.1, fx.1, tick_on, calleeK, List.getElem?_toArray, extractV, oneV, faddrK, nonnil, b_shr, b_shl, eq_self, beq_self_eq_true, fieldK, Option.bind_some, Option.map_some, Option.bind_none, Option.map_none, List.map_cons, List.map_nil, List.getD_cons_zero, List.getD_cons_succ, List.getD_nil, List.length_nil, List.length_cons, List.length_set, List.nil_append, List.cons_append, List.append_nil, List.getElem?_cons_zero, List.getElem?_cons_succ, List.getElem?_nil, List.set_cons_zero, List.set_cons_succ, Nat.reduceAdd, Nat.zero_add, Nat.add_zero, Nat.mul_one, Nat.mul_zero, Nat.zero_mul, Nat.reduceMul, Nat.reduceSub, Nat.reduceEqDiff, Nat.reduceLT, Nat.reduceLeDiff, Nat.reduceBEq, Nat.reduceBNe, Nat.succ_ne_self, reduceIte, if_true, if_false, ite_self, decide_true, decide_false, Bool.not_true, Bool.not_false, Bool.and_true, Bool.true_and, Bool.and_false, Bool.false_and, Bool.or_true, Bool.true_or, Bool.or_false, Bool.false_or, cond_true, cond_false, Int.reduceEq, Int.reduceLT, Int.reduceLE, Int.reduceNe, Int.reduceToNat]
    refine W_loopM (fun _ : Unit => [(45, .int .i64 0), (44, .nils), (46, .int .i64 0), (3, .sl 1 4 0 is.length), (0, .ptr 0 0), (5, .ptr 5 0)])
      (fun _ mm => mm = .var 71 [.int .u64 n, .int .i64 a, .int .i64 t, .mp 1, .mp 2, .mp 3] :: gtR gs :: .map [] [] 0 :: H :: rowU is :: .var 27 [.int .u16 (sw : Int)] :: .dead :: ex) (fun _ => 0) () (by kernel_rfl) rfl ?_
    rintro _ mm rfl
    have z0 : decide ((0 : Int) < 0) = false := rfl
    simp -implicitDefEqProofs only [sims.1, fx.1, tick_on, calleeK, List.getElem?_toArray, extractV, oneV, faddrK, nonnil, b_shr, b_shl, eq_self, beq_self_eq_true, fieldK, Option.bind_some, Option.map_some, Option.bind_none, Option.map_none, List.map_cons, List.map_nil, List.getD_cons_zero, List.getD_cons_succ, List.getD_nil, List.length_nil, List.length_cons, List.length_set, List.nil_append, List.cons_append, List.append_nil, List.getElem?_cons_zero, List.getElem?_cons_succ, List.getElem?_nil, List.set_cons_zero, List.set_cons_succ, Nat.reduceAdd, Nat.zero_add, Nat.add_zero, Nat.mul_one, Nat.mul_zero, Nat.zero_mul, Nat.reduceMul, Nat.reduceSub, Nat.reduceEqDiff, Nat.reduceLT, Nat.reduceLeDiff, Nat.reduceBEq, Nat.reduceBNe, Nat.succ_ne_self, reduceIte, if_true, if_false, ite_self, decide_true, decide_false, Bool.not_true, Bool.not_false, Bool.and_true, Bool.true_and, Bool.and_false, Bool.false_and, Bool.or_true, Bool.true_or, Bool.or_false, Bool.false_or, cond_true, cond_false, Int.reduceEq, Int.reduceLT, Int.reduceLE, Int.reduceNe, Int.reduceToNat, z0]
    refine W_loopM (fun j : Nat => [(60, .int .i64 (is.length : Int)), (59, .sl 1 4 0 is.length), (61, .int .i64 (j : Int)), (0, .ptr 0 0), (5, .ptr 5 0)])
      (fun j mm => j ≤ is.length ∧ mm = .var 71 [.int .u64 n, .int .i64 a, .int .i64 t, .mp 1, .mp 2, .mp 3] :: gtR (gs ++ (is.take j).map fun p => ((sw, p), (false, false))) :: .map [] [] 0 :: H :: rowU is :: .var 27 [.int .u16 (sw : Int)] :: .dead :: ex) (fun j => is.length - j) 0
      (by kernel_rfl) ⟨Nat.zero_le _, by rw [List.take_zero, List.map_nil, List.append_nil]⟩ ?_
    rintro j mm ⟨hj, rfl⟩
    rcases Nat.lt_or_ge j is.length with h | h
    · have c1 : decide (j < is.length) = true := by simpa using h
      have w1 := wrap_i64s j (by omega)
      have i1 : ∀ {kk : IntKind}, iaddrS 1 (.sl 1 4 0 is.length) (.int kk (j : Int)) = some (.ep 1 4 j 0) := fun {kk} => by rw [iaddrS_sl h, Nat.zero_add]
      have hx := his _ (List.getElem_mem h)
      have hno : gtF sw is[j] (gs ++ (is.take j).map fun p => ((sw, p), (false, false))) 0 = none := gtF_none fun g hg => by
        rcases List.mem_append.1 hg with hg | hg
        · exact fun e => hfr g hg e.1.symm
        · obtain ⟨p, hp, rfl⟩ := List.mem_map.1 hg
          rintro ⟨_, e⟩
          obtain ⟨k, hk, hk2⟩ := List.getElem_of_mem hp
          simp at hk hk2
          have h5 : is[k] = is[j] := by rw [hk2, e]
          exact List.pairwise_iff_getElem.1 hnd k j (by omega) h (by omega) h5
      have hpt := fun m => put_gt hsw hx (GtOk_app (d := (false, false)) hgs hsw fun x hx => his x (List.mem_of_mem_take hx)) hno false false (B.var 71 [.int .u64 n, .int .i64 a, .int .i64 t, .mp 1, .mp 2, .mp 3]) m
      have e1 : (gs ++ (is.take j).map fun p => ((sw, p), (false, false))) ++ [((sw, is[j]), (false, false))] = gs ++ (is.take (j + 1)).map fun p => ((sw, p), (false, false)) := by
        rw [List.take_add_one, List.getElem?_eq_getElem h, List.append_assoc]
        simp only [Option.toList_some, List.map_append, List.map_cons, List.map_nil]
      simp only [e1] at hpt
      have l1 := ld_u16 (m := .var 71 [.int .u64 n, .int .i64 a, .int .i64 t, .mp 1, .mp 2, .mp 3] :: gtR (gs ++ (is.take j).map fun p => ((sw, p), (false, false))) :: .map [] [] 0 :: H :: rowU is :: .var 27 [.int .u16 (sw : Int)] :: .dead :: ex) (q := 4) rfl h
      simp -implicitDefEqProofs only [sims.1, fx.1, tick_on, calleeK, List.getElem?_toArray, extractV, oneV, faddrK, nonnil, b_shr, b_shl, eq_self, beq_self_eq_true, fieldK, Option.bind_some, Option.map_some, Option.bind_none, Option.map_none, List.map_cons, List.map_nil, List.getD_cons_zero, List.getD_cons_succ, List.getD_nil, List.length_nil, List.length_cons, List.length_set, List.nil_append, List.cons_append, List.append_nil, List.getElem?_cons_zero, List.getElem?_cons_succ, List.getElem?_nil, List.set_cons_zero, List.set_cons_succ, Nat.reduceAdd, Nat.zero_add, Nat.add_zero, Nat.mul_one, Nat.mul_zero, Nat.zero_mul, Nat.reduceMul, Nat.reduceSub, Nat.reduceEqDiff, Nat.reduceLT, Nat.reduceLeDiff, Nat.reduceBEq, Nat.reduceBNe, Nat.succ_ne_self, reduceIte, if_true, if_false, ite_self, decide_true, decide_false, Bool.not_true, Bool.not_false, Bool.and_true, Bool.true_and, Bool.and_false, Bool.false_and, Bool.or_true, Bool.true_or, Bool.or_false, Bool.false_or, cond_true, cond_false, Int.reduceEq, Int.reduceLT, Int.reduceLE, Int.reduceNe, Int.reduceToNat, ltNat, c1, i1, l1]
      refine w_noisy ?_
      simp -implicitDefEqProofs only [sims.1, fx.1, tick_on, calleeK, List.getElem?_toArray, extractV, oneV, faddrK, nonnil, b_shr, b_shl, eq_self, beq_self_eq_true, fieldK, Option.bind_some, Option.map_some, Option.bind_none, Option.map_none, List.map_cons, List.map_nil, List.getD_cons_zero, List.getD_cons_succ, List.getD_nil, List.length_nil, List.length_cons, List.length_set, List.nil_append, List.cons_append, List.append_nil, List.getElem?_cons_zero, List.getElem?_cons_succ, List.getElem?_nil, List.set_cons_zero, List.set_cons_succ, Nat.reduceAdd, Nat.zero_add, Nat.add_zero, Nat.mul_one, Nat.mul_zero, Nat.zero_mul, Nat.reduceMul, Nat.reduceSub, Nat.reduceEqDiff, Nat.reduceLT, Nat.reduceLeDiff, Nat.reduceBEq, Nat.reduceBNe, Nat.succ_ne_self, reduceIte, if_true, if_false, ite_self, decide_true, decide_false, Bool.not_true, Bool.not_false, Bool.and_true, Bool.true_and, Bool.and_false, Bool.false_and, Bool.or_true, Bool.true_or, Bool.or_false, Bool.false_or, cond_true, cond_false, Int.reduceEq, Int.reduceLT, Int.reduceLE, Int.reduceNe, Int.reduceToNat, b30, hpt]
      iterate 8
        first
        | (refine orderP_of (by kernel_rfl) ?_
           simp -implicitDefEqProofs only [sims.1, fx.1, tick_on, calleeK, List.getElem?_toArray, extractV, oneV, faddrK, nonnil, b_shr, b_shl, eq_self, beq_self_eq_true, fieldK, Option.bind_some, Option.map_some, Option.bind_none, Option.map_none, List.map_cons, List.map_nil, List.getD_cons_zero, List.getD_cons_succ, List.getD_nil, List.length_nil, List.length_cons, List.length_set, List.nil_append, List.cons_append, List.append_nil, List.getElem?_cons_zero, List.getElem?_cons_succ, List.getElem?_nil, List.set_cons_zero, List.set_cons_succ, Nat.reduceAdd, Nat.zero_add, Nat.add_zero, Nat.mul_one, Nat.mul_zero, Nat.zero_mul, Nat.reduceMul, Nat.reduceSub, Nat.reduceEqDiff, Nat.reduceLT, Nat.reduceLeDiff, Nat.reduceBEq, Nat.reduceBNe, Nat.succ_ne_self, reduceIte, if_true, if_false, ite_self, decide_true, decide_false, Bool.not_true, Bool.not_false, Bool.and_true, Bool.true_and, Bool.and_false, Bool.false_and, Bool.or_true, Bool.true_or, Bool.or_false, Bool.false_or, cond_true, cond_false, Int.reduceEq, Int.reduceLT, Int.reduceLE, Int.reduceNe, Int.reduceToNat, b30, hpt, w1])
        | skip
      exact ⟨j + 1, by kernel_rfl, ⟨h, by trivial⟩, by omega⟩
    · have c1 : decide (j < is.length) = false := by simpa using h
      simp -implicitDefEqProofs only [sims.1, fx.1, tick_on, calleeK, List.getElem?_toArray, extractV, oneV, faddrK, nonnil, b_shr, b_shl, eq_self, beq_self_eq_true, fieldK, Option.bind_some, Option.map_some, Option.bind_none, Option.map_none, List.map_cons, List.map_nil, List.getD_cons_zero, List.getD_cons_succ, List.getD_nil, List.length_nil, List.length_cons, List.length_set, List.nil_append, List.cons_append, List.append_nil, List.getElem?_cons_zero, List.getElem?_cons_succ, List.getElem?_nil, List.set_cons_zero, List.set_cons_succ, Nat.reduceAdd, Nat.zero_add, Nat.add_zero, Nat.mul_one, Nat.mul_zero, Nat.zero_mul, Nat.reduceMul, Nat.reduceSub, Nat.reduceEqDiff, Nat.reduceLT, Nat.reduceLeDiff, Nat.reduceBEq, Nat.reduceBNe, Nat.succ_ne_self, reduceIte, if_true, if_false, ite_self, decide_true, decide_false, Bool.not_true, Bool.not_false, Bool.and_true, Bool.true_and, Bool.and_false, Bool.false_and, Bool.or_true, Bool.true_or, Bool.or_false, Bool.false_or, cond_true, cond_false, Int.reduceEq, Int.reduceLT, Int.reduceLE, Int.reduceNe, Int.reduceToNat, ltNat, c1]
      refine callD_all (snd21 (n := n) (a := a) (t := t) (g := gtR (gs ++ (is.take j).map fun p => ((sw, p), (false, false)))) (H := H) (clk := 0) (ex := rowU is :: .var 27 [.int .u16 (sw : Int)] :: .dead :: ex) _) en21 ?_
      have rs8 : ∀ env m, resV Try.prog Try.prog.funcs[8] env m = some (.tup []) := fun _ _ => rfl
      simp -implicitDefEqProofs only [sims.1, fx.1, tick_on, calleeK, List.getElem?_toArray, extractV, oneV, faddrK, nonnil, b_shr, b_shl, eq_self, beq_self_eq_true, fieldK, Option.bind_some, Option.map_some, Option.bind_none, Option.map_none, List.map_cons, List.map_nil, List.getD_cons_zero, List.getD_cons_succ, List.getD_nil, List.length_nil, List.length_cons, List.length_set, List.nil_append, List.cons_append, List.append_nil, List.getElem?_cons_zero, List.getElem?_cons_succ, List.getElem?_nil, List.set_cons_zero, List.set_cons_succ, Nat.reduceAdd, Nat.zero_add, Nat.add_zero, Nat.mul_one, Nat.mul_zero, Nat.zero_mul, Nat.reduceMul, Nat.reduceSub, Nat.reduceEqDiff, Nat.reduceLT, Nat.reduceLeDiff, Nat.reduceBEq, Nat.reduceBNe, Nat.succ_ne_self, reduceIte, if_true, if_false, ite_self, decide_true, decide_false, Bool.not_true, Bool.not_false, Bool.and_true, Bool.true_and, Bool.and_false, Bool.false_and, Bool.or_true, Bool.true_or, Bool.or_false, Bool.false_or, cond_true, cond_false, Int.reduceEq, Int.reduceLT, Int.reduceLE, Int.reduceNe, Int.reduceToNat, rs8]
      rw [List.take_of_length_le h]
      exact ⟨[.var 27 [.int .u16 (sw : Int)], .dead] ++ ex ++ [.dead], by simp [lay]⟩
  · have hen : entryV (.var 71 [.int .u64 n, .int .i64 a, .int .i64 t, .mp 1, .mp 2, .mp 3] :: gtR gs :: .map [] [] 0 :: H :: rowU is :: .var 27 [.int .u16 (sw : Int)] :: .iter 1 gs.length (seen ++ [i]) gs.length :: ex) (.ptr 6 0) = some (.tup [(gtE gs[i]).1, (gtE gs[i]).2]) := entry_gt rfl rfl hi
    have hne : decide (gs[i].1.1 = sw) = false := by simpa using hfr _ (List.getElem_mem hi)
    have hst : storeK 2 (B.var 71 [.int .u64 n, .int .i64 a, .int .i64 t, .mp 1, .mp 2, .mp 3] :: gtR gs :: B.map [] [] 0 :: H :: rowU is :: B.var 27 [.int .u16 (sw : Int)] :: B.iter 1 gs.length (seen ++ [i]) gs.length :: (ex ++ [B.var 30 (cl .u16 2 fun _ => 0)])) (.ptr (ex.length + 1 + 1 + 1 + 1 + 1 + 1 + 1) 0) (gtE gs[i]).1 = some (B.var 71 [.int .u64 n, .int .i64 a, .int .i64 t, .mp 1, .mp 2, .mp 3] :: gtR gs :: B.map [] [] 0 :: H :: rowU is :: B.var 27 [.int .u16 (sw : Int)] :: B.iter 1 gs.length (seen ++ [i]) gs.length :: (ex ++ [B.var 30 (spC gs[i].1.1 gs[i].1.2)])) := st_end (pre := B.var 71 [.int .u64 n, .int .i64 a, .int .i64 t, .mp 1, .mp 2, .mp 3] :: gtR gs :: B.map [] [] 0 :: H :: rowU is :: B.var 27 [.int .u16 (sw : Int)] :: B.iter 1 gs.length (seen ++ [i]) gs.length :: ex) 30 _ _
    have c0 : ∀ s p, (spC s p)[0]? = some (.int .u16 (s : Int)) := fun _ _ => rfl
    have ae : ∀ b : B, (ex ++ [b])[ex.length]? = some b := fun b => at_end ex b
    simp -implicitDefEqProofs only [sims.1, fx.1, tick_on, calleeK, List.getElem?_toArray, extractV, oneV, faddrK, nonnil, b_shr, b_shl, eq_self, beq_self_eq_true, fieldK, Option.bind_some, Option.map_some, Option.bind_none, Option.map_none, List.map_cons, List.map_nil, List.getD_cons_zero, List.getD_cons_succ, List.getD_nil, List.length_nil, List.length_cons, List.length_set, List.nil_append, List.cons_append, List.append_nil, List.getElem?_cons_zero, List.getElem?_cons_succ, List.getElem?_nil, List.set_cons_zero, List.set_cons_succ, Nat.reduceAdd, Nat.zero_add, Nat.add_zero, Nat.mul_one, Nat.mul_zero, Nat.zero_mul, Nat.reduceMul, Nat.reduceSub, Nat.reduceEqDiff, Nat.reduceLT, Nat.reduceLeDiff, Nat.reduceBEq, Nat.reduceBNe, Nat.succ_ne_self, reduceIte, if_true, if_false, ite_self, decide_true, decide_false, Bool.not_true, Bool.not_false, Bool.and_true, Bool.true_and, Bool.and_false, Bool.false_and, Bool.or_true, Bool.true_or, Bool.or_false, Bool.false_or, cond_true, cond_false, Int.reduceEq, Int.reduceLT, Int.reduceLE, Int.reduceNe, Int.reduceToNat, hen, hst, ae, c0, neq16, hne]
    exact ⟨seen ++ [i], by kernel_rfl, ⟨_, rfl⟩, left_lt hi hs⟩
end Go.Proofs.Ytpmbhjmlghoogaa
