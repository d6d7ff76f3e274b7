/- The cursor's 'number'. No condition. -/
import Derived.Test.YtpmbhjmlghoogaaNa
import Derived.Laws.Bits64b
namespace Go.Proofs.Ytpmbhjmlghoogaa
open Go Ab
set_option linter.unusedSimpArgs false
set_option linter.unusedVariables false
set_option maxRecDepth 20000

theorem callD_at {f : FuncId} {vs vs1 : List V} {v : V} {K Kp : V → Mem → Prop} {m m0 m1 m' : Mem} (L : List Nat) (h : Snd Try.prog f vs1 m0 fun r => r = .ret v m1) (he : enterable Try.prog f = true) (hr : rootsV m vs = L) (hok : okCall L m vs = true)
    (hv1 : rens (idx L) vs = vs1) (hview : view L m = m0) (hv : nf v = true) (hall : m1.all (inDB fun _ => true) = true) (hlen : Nat.ble L.length m1.length = true) (hL : L.isEmpty = false) (hm : merge L m m1 = m') (hk : K v m') : callD Try.prog f vs m K Kp := by
  refine .inl ?_
  unfold callL
  rw [hr]
  refine ⟨hok, he, _, by rw [hv1, hview]; exact h, ?_⟩
  rintro r rfl
  refine ⟨?_, ?_⟩
  · simp only [okRes, CR.val, CR.mem, okBack, nf_inD _ _ hv, hall, hlen]
    simp
  · simp only [backV, hL, Bool.false_and, cond_false, ren_nf _ _ hv, hm]
    exact hk
theorem callD_pan {f : FuncId} {vs vs1 : List V} {v : V} {K Kp : V → Mem → Prop} {m m0 m1 m' : Mem} (L : List Nat) (h : Snd Try.prog f vs1 m0 fun r => r = .pan v m1) (he : enterable Try.prog f = true) (hr : rootsV m vs = L) (hok : okCall L m vs = true)
    (hv1 : rens (idx L) vs = vs1) (hview : view L m = m0) (hv : nf v = true) (hall : m1.all (inDB fun _ => true) = true) (hlen : Nat.ble L.length m1.length = true) (hL : L.isEmpty = false) (hm : merge L m m1 = m') (hk : Kp v m') : callD Try.prog f vs m K Kp := by
  refine .inl ?_
  unfold callL
  rw [hr]
  refine ⟨hok, he, _, by rw [hv1, hview]; exact h, ?_⟩
  rintro r rfl
  refine ⟨?_, ?_⟩
  · simp only [okRes, CR.val, CR.mem, okBack, nf_inD _ _ hv, hall, hlen]
    simp
  · simp only [backV, hL, Bool.false_and, cond_false, ren_nf _ _ hv, hm]
    exact hk

theorem inK (L : List Nat) (l : List Nat) : inDB (fun k => L.contains k) (.var 107 [byV l]) = true := inDs_cons (nf_inD _ _ (nf_by l)) rfl
theorem allK (l : List Nat) : ([.var 107 [byV l]] : Mem).all (inDB fun _ => true) = true := by
  have : inDB (fun _ => true) (.var 107 [byV l]) = true := inDs_cons (nf_inD _ _ (nf_by l)) rfl
  simp only [List.all_cons, List.all_nil, this]
  rfl
theorem okK (l : List Nat) (n : Int) (ex : Mem) : okCall [0] (.var 107 [byV l] :: ex) [.ptr 0 0, .int .i64 n] = true := by
  have h1 := inK [0] l
  simp only [okCall, closedB, List.all_cons, List.all_nil, List.getD_cons_zero, h1]
  simp
  exact ⟨rfl, rfl⟩
theorem viewK (l : List Nat) (ex : Mem) : view [0] (.var 107 [byV l] :: ex) = [.var 107 [byV l]] := by
  simp only [view, List.map_cons, List.map_nil, List.getD_cons_zero, renB, rens, ren_nf _ _ (nf_by l)]
theorem mergeK (l l' : List Nat) : merge [0] [.var 107 [byV l]] [.var 107 [byV l']] = [.var 107 [byV l']] := by
  unfold merge
  simp only [List.length_cons, List.length_nil, List.take_succ_cons, List.take_zero, List.map_cons, List.map_nil, List.drop_succ_cons, List.drop_zero, List.append_nil, renB, rens, ren_nf _ _ (nf_by l')]
  rfl

def num (l : List Nat) : Nat := l.foldl (fun x b => x * 256 + b) 0
theorem num_snoc (l : List Nat) (b : Nat) : num (l ++ [b]) = num l * 256 + b := by simp [num]
theorem num_take {l : List Nat} {j : Nat} (h : j < l.length) : num (l.take (j + 1)) = num (l.take j) * 256 + l[j] := by
  rw [List.take_add_one, List.getElem?_eq_getElem h]
  exact num_snoc _ _
theorem num_lt {l : List Nat} (hb : ∀ b ∈ l, b < 256) : ∀ j, num (l.take j) < 256 ^ j
  | 0 => by simp [num]
  | j + 1 => by
    have ih := num_lt hb j
    rcases Nat.lt_or_ge j l.length with h | h
    · rw [num_take h, Nat.pow_succ]
      have := hb _ (List.getElem_mem h)
      omega
    · rw [List.take_of_length_le (by omega), Nat.pow_succ]
      rw [List.take_of_length_le h] at ih
      omega
theorem by0 (b : Nat) : (byC b)[0]? = some (.int .u8 (b : Int)) := rfl
theorem wrap_i64s (j : Nat) (h : j < 9223372036854775807) : IntKind.i64.wrap ((j : Int) + 1) = ((j + 1 : Nat) : Int) := by
  simp [IntKind.wrap, IntKind.bits, IntKind.signed]; omega
theorem shl8 (x : Nat) (h : x < 72057594037927936) : IntKind.u64.wrap ((x : Int) * 2 ^ (min 8 IntKind.u64.bits)) = ((x * 256 : Nat) : Int) := by
  simp [IntKind.wrap, IntKind.bits, IntKind.signed]; omega
theorem wrapB (b : Nat) (h : b < 256) : IntKind.u64.wrap (b : Int) = (b : Int) := by
  simp [IntKind.wrap, IntKind.bits, IntKind.signed]; omega
theorem or8 (x b : Nat) (hx : x < 72057594037927936) (hb : b < 256) : bits .or .u64 ((x * 256 : Nat) : Int) (b : Int) = ((x * 256 + b : Nat) : Int) := by
  rw [bits_or_u64_nat _ _ (by omega) (by omega)]
  congr 1
  have := Nat.shiftLeft_add_eq_or_of_lt (i := 8) (b := b) (by simpa using hb) x
  rw [Nat.shiftLeft_eq] at this
  exact this.symm

set_option maxHeartbeats 1000000 in
theorem snd29 (l : List Nat) (n : Nat) (hb : ∀ b ∈ l, b < 256) (hn : n ≤ 7) (h : n ≤ l.length) : Snd Try.prog 38 [.ptr 0 0, .int .i64 (n : Int)] [.var 107 [byV l]] fun r => r = .ret (.int .u64 (num (l.take n) : Int)) [.var 107 [byV (l.drop n)]] := by
  refine Snd_of_W fol rfl rfl (by kernel_rfl) (by kernel_rfl) ?_
  simp -implicitDefEqProofs only [sims.1, fx.1, tick_on, calleeK, List.getElem?_toArray, extractV, oneV, faddrK, nonnil, b_shr, b_shl, eq_self, beq_self_eq_true, fieldK, Option.bind_some, Option.map_some, Option.bind_none, Option.map_none, List.map_cons, List.map_nil, List.getD_cons_zero, List.getD_cons_succ, List.getD_nil, List.length_nil, List.length_cons, List.length_set, List.nil_append, List.cons_append, List.append_nil, List.getElem?_cons_zero, List.getElem?_cons_succ, List.getElem?_nil, List.set_cons_zero, List.set_cons_succ, Nat.reduceAdd, Nat.zero_add, Nat.add_zero, Nat.mul_one, Nat.mul_zero, Nat.zero_mul, Nat.reduceMul, Nat.reduceSub, Nat.reduceEqDiff, Nat.reduceLT, Nat.reduceLeDiff, Nat.reduceBEq, Nat.reduceBNe, Nat.succ_ne_self, reduceIte, if_true, if_false, ite_self, decide_true, decide_false, Bool.not_true, Bool.not_false, Bool.and_true, Bool.true_and, Bool.and_false, Bool.false_and, Bool.or_true, Bool.true_or, Bool.or_false, Bool.false_or, cond_true, cond_false, Int.reduceEq, Int.reduceLT, Int.reduceLE, Int.reduceNe, Int.reduceToNat]
  refine callD_at [0] (snd30 l n h) en39 (by kernel_rfl) (okK l n []) (by kernel_rfl) (viewK l []) (nf_by _) (allK _) rfl rfl (mergeK _ _) ?_
  have hlen : (l.take n).length = n := by simp; omega
  simp -implicitDefEqProofs only [sims.1, fx.1, tick_on, calleeK, List.getElem?_toArray, extractV, oneV, faddrK, nonnil, b_shr, b_shl, eq_self, beq_self_eq_true, fieldK, Option.bind_some, Option.map_some, Option.bind_none, Option.map_none, List.map_cons, List.map_nil, List.getD_cons_zero, List.getD_cons_succ, List.getD_nil, List.length_nil, List.length_cons, List.length_set, List.nil_append, List.cons_append, List.append_nil, List.getElem?_cons_zero, List.getElem?_cons_succ, List.getElem?_nil, List.set_cons_zero, List.set_cons_succ, Nat.reduceAdd, Nat.zero_add, Nat.add_zero, Nat.mul_one, Nat.mul_zero, Nat.zero_mul, Nat.reduceMul, Nat.reduceSub, Nat.reduceEqDiff, Nat.reduceLT, Nat.reduceLeDiff, Nat.reduceBEq, Nat.reduceBNe, Nat.succ_ne_self, reduceIte, if_true, if_false, ite_self, decide_true, decide_false, Bool.not_true, Bool.not_false, Bool.and_true, Bool.true_and, Bool.and_false, Bool.false_and, Bool.or_true, Bool.true_or, Bool.or_false, Bool.false_or, cond_true, cond_false, Int.reduceEq, Int.reduceLT, Int.reduceLE, Int.reduceNe, Int.reduceToNat, len_by, hlen]
  refine W_loop (fun j : Nat => (mkEnv [(11, .int .i64 (n : Int)), (10, byV (l.take n)), (12, .int .i64 (j : Int)), (5, .int .u64 (num (l.take j) : Int))], [.var 107 [byV (l.drop n)]])) (fun j => j ≤ n) (fun j => n + 1 - j) 0
    (canK (ex := []) [.int .i64 (n : Int), byV (l.take n), .int .i64 0, .int .u64 0] (by kernel_rfl) (by kernel_rfl) (inDs_cons rfl (inDs_cons (nf_inD _ _ (nf_by _)) rfl)) (by kernel_rfl) (by kernel_rfl)) (by omega) ?_
  intro j h1
  rcases Nat.lt_or_ge j n with hj | hj
  · have c1 : decide (j < n) = true := by simpa using hj
    have w1 := wrap_i64s j (by omega)
    have hjl : j < l.length := by omega
    have io : ∀ {kk : IntKind}, iaddrS 1 (byV (l.take n)) (.int kk (j : Int)) = some (.ip (byC l[j])) := fun {kk} => by
      rw [ia_by (by omega)]
      simp
    have hx : num (l.take j) < 72057594037927936 := by
      have h2 := num_lt hb j
      have h3 : 256 ^ j ≤ 256 ^ 6 := Nat.pow_le_pow_right (by omega) (by omega)
      omega
    have hbj := hb _ (List.getElem_mem hjl)
    have x1 := shl8 _ hx
    have x2 := wrapB _ hbj
    have x3 := or8 _ _ hx hbj
    simp -implicitDefEqProofs only [sims.1, fx.1, tick_on, calleeK, List.getElem?_toArray, extractV, oneV, faddrK, nonnil, b_shr, b_shl, eq_self, beq_self_eq_true, fieldK, Option.bind_some, Option.map_some, Option.bind_none, Option.map_none, List.map_cons, List.map_nil, List.getD_cons_zero, List.getD_cons_succ, List.getD_nil, List.length_nil, List.length_cons, List.length_set, List.nil_append, List.cons_append, List.append_nil, List.getElem?_cons_zero, List.getElem?_cons_succ, List.getElem?_nil, List.set_cons_zero, List.set_cons_succ, Nat.reduceAdd, Nat.zero_add, Nat.add_zero, Nat.mul_one, Nat.mul_zero, Nat.zero_mul, Nat.reduceMul, Nat.reduceSub, Nat.reduceEqDiff, Nat.reduceLT, Nat.reduceLeDiff, Nat.reduceBEq, Nat.reduceBNe, Nat.succ_ne_self, reduceIte, if_true, if_false, ite_self, decide_true, decide_false, Bool.not_true, Bool.not_false, Bool.and_true, Bool.true_and, Bool.and_false, Bool.false_and, Bool.or_true, Bool.true_or, Bool.or_false, Bool.false_or, cond_true, cond_false, Int.reduceEq, Int.reduceLT, Int.reduceLE, Int.reduceNe, Int.reduceToNat, ltNat, c1, io, by0, x1, x2, x3, w1]
    refine ⟨j + 1, ?_, by omega, by omega⟩
    rw [← num_take hjl]
    exact canK (ex := []) [.int .i64 (n : Int), byV (l.take n), .int .i64 ((j + 1 : Nat) : Int), .int .u64 (num (l.take (j + 1)) : Int)] (by kernel_rfl) (by kernel_rfl) (inDs_cons rfl (inDs_cons (nf_inD _ _ (nf_by _)) rfl)) (by kernel_rfl) (by kernel_rfl)
  · obtain rfl : j = n := by omega
    have c1 : decide (j < j) = false := by simp
    simp -implicitDefEqProofs only [sims.1, fx.1, tick_on, calleeK, List.getElem?_toArray, extractV, oneV, faddrK, nonnil, b_shr, b_shl, eq_self, beq_self_eq_true, fieldK, Option.bind_some, Option.map_some, Option.bind_none, Option.map_none, List.map_cons, List.map_nil, List.getD_cons_zero, List.getD_cons_succ, List.getD_nil, List.length_nil, List.length_cons, List.length_set, List.nil_append, List.cons_append, List.append_nil, List.getElem?_cons_zero, List.getElem?_cons_succ, List.getElem?_nil, List.set_cons_zero, List.set_cons_succ, Nat.reduceAdd, Nat.zero_add, Nat.add_zero, Nat.mul_one, Nat.mul_zero, Nat.zero_mul, Nat.reduceMul, Nat.reduceSub, Nat.reduceEqDiff, Nat.reduceLT, Nat.reduceLeDiff, Nat.reduceBEq, Nat.reduceBNe, Nat.succ_ne_self, reduceIte, if_true, if_false, ite_self, decide_true, decide_false, Bool.not_true, Bool.not_false, Bool.and_true, Bool.true_and, Bool.and_false, Bool.false_and, Bool.or_true, Bool.true_or, Bool.or_false, Bool.false_or, cond_true, cond_false, Int.reduceEq, Int.reduceLT, Int.reduceLE, Int.reduceNe, Int.reduceToNat, ltNat, c1]
theorem snd29p (l : List Nat) (n : Nat) (h : l.length < n) : Snd Try.prog 38 [.ptr 0 0, .int .i64 (n : Int)] [.var 107 [byV l]] fun r => r = .pan shortV [.var 107 [byV l]] := by
  refine Snd_of_W fol rfl rfl (by kernel_rfl) (by kernel_rfl) ?_
  simp -implicitDefEqProofs only [sims.1, fx.1, tick_on, calleeK, List.getElem?_toArray, extractV, oneV, faddrK, nonnil, b_shr, b_shl, eq_self, beq_self_eq_true, fieldK, Option.bind_some, Option.map_some, Option.bind_none, Option.map_none, List.map_cons, List.map_nil, List.getD_cons_zero, List.getD_cons_succ, List.getD_nil, List.length_nil, List.length_cons, List.length_set, List.nil_append, List.cons_append, List.append_nil, List.getElem?_cons_zero, List.getElem?_cons_succ, List.getElem?_nil, List.set_cons_zero, List.set_cons_succ, Nat.reduceAdd, Nat.zero_add, Nat.add_zero, Nat.mul_one, Nat.mul_zero, Nat.zero_mul, Nat.reduceMul, Nat.reduceSub, Nat.reduceEqDiff, Nat.reduceLT, Nat.reduceLeDiff, Nat.reduceBEq, Nat.reduceBNe, Nat.succ_ne_self, reduceIte, if_true, if_false, ite_self, decide_true, decide_false, Bool.not_true, Bool.not_false, Bool.and_true, Bool.true_and, Bool.and_false, Bool.false_and, Bool.or_true, Bool.true_or, Bool.or_false, Bool.false_or, cond_true, cond_false, Int.reduceEq, Int.reduceLT, Int.reduceLE, Int.reduceNe, Int.reduceToNat]
  refine callD_pan [0] (snd30p l n h) en39 (by kernel_rfl) (okK l n []) (by kernel_rfl) (viewK l []) rfl (allK _) rfl rfl (mergeK _ _) ?_
  rfl
end Go.Proofs.Ytpmbhjmlghoogaa
