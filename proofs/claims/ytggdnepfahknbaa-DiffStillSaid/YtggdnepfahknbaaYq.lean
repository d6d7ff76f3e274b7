/- Calls that freeze what they are handed; wakes; DiffTells. No condition. -/
import Derived.Test.YtggdnepfahknbaaYo
import Derived.Test.YtggdnepfahknbaaYp
namespace Go.Proofs.Ytggdnepfahknbaa
open Go Ab
set_option linter.unusedSimpArgs false
set_option linter.unusedVariables false
set_option maxRecDepth 20000

theorem wk_mq (x : Me) : wkC (meQ x) (meC x) := by
  unfold meQ
  cases decide (x.d = 3)
  · exact ⟨[], _, _, _, rfl, rfl, .inl rfl⟩
  · exact wk_me x
theorem ret_mq {m1 : Mem} {q : Nat} {l : List Me} (h : RowQ m1 q l) : retOk (fun e => nfs e) m1 (.isl 36 (l.map meQ)) (mV l.length q) := by
  cases l with
  | nil => exact .inl ⟨rfl, rfl⟩
  | cons a l =>
    refine .inr ⟨q, 0, _, 45, _, rfl, h (by simp), by simp, by rw [List.drop_zero, List.take_of_length_le (by simp)], ?_⟩
    rw [List.all_eq_true]
    intro e he
    obtain ⟨x, _, rfl⟩ := List.mem_map.1 he
    exact nfs_meQ x
theorem ans10 (was now : List Ru) (hw1 : ∀ r ∈ was, wfR r) (hw2 : ∀ r ∈ now, wfR r) (h1 : grt was = false) (h2 : grt now = false) : Ans Try.prog 10 [rsV was, rsV now] (msV (btw was now)) := by
  have g1 := grt_small h1
  have g2 := grt_small h2
  refine ans_wk wk_mq (ans_frz ?_ (fun l h => by cases h))
  refine (ans10w was now hw1 hw2 g1.1 g2.1).mono ?_
  rintro r ⟨m1, q, rfl, hm⟩
  exact ⟨m1, _, rfl, ret_mq hm⟩

/-! ### Calls that freeze their arguments -/
section
variable {P : Program}
/-- A contract on values without names, on all of the memory. -/
theorem Snd_nf {f : FuncId} {vs : List V} {v : V} {m : Mem} (h : Ans P f vs v) (hn : nfs vs = true) (hv : nf v = true) : Snd P f vs m fun r => r = .ret v m := by
  intro ρ I w xs hr hl hrt
  have h0 : Rep ρ I [] w := ⟨fun n b hb => by simp at hb, fun n ⟨b, hb, _⟩ => by simp at hb, fun n n' ⟨b, hb, _⟩ => by simp at hb, hr.ilt⟩
  refine (h ρ I w xs h0 hl (Rt_nf _ _ _ hn hrt)).mono ?_
  rintro e w' ⟨r, ⟨m1, rfl⟩, x, ρ1, I1, rfl, p1, p2, p3⟩
  have hno : ∀ b, ¬ Ab.Own ρ ([] : Mem) b := by
    rintro b ⟨n, ⟨b, hb, _⟩, _⟩
    simp at hb
  have hfr : ∀ b : Nat, b < w.heap.size → w'.heap[b]? = w.heap[b]? := fun b hb => p2.frame b hb (hno b)
  have hkeep : Keeps m.length ρ I w m.length ρ I1 w' := ⟨Nat.le_refl _, fun _ _ => rfl, p2.iSub, p2.wle.imm, p2.wle.cells⟩
  refine ⟨.ret v m, rfl, x, ρ, I1, rfl, ⟨fun n b hb => ?_, fun n hn hI => ?_, hr.inj, p1.ilt⟩, ⟨Nat.le_refl _, fun _ _ => rfl, fun _ _ h => h, p2.iSub, fun b hb => ?_, fun b hb => .inr hb, p2.wle, fun b hb _ => hfr b hb⟩, RV_nf _ _ hv p3⟩
  · by_cases hl : b.live = true
    · exact (hr.blk n b hb).keep hkeep (hfr _ ((hr.blk n b hb).lt hl))
    · cases b <;> first | trivial | exact absurd rfl hl
  · rcases p2.iNew _ hI with h | h | h
    · exact hr.notI n hn h
    · have := hr.live_lt hn; omega
    · exact hno _ h
  · rcases p2.iNew _ hb with h | h | h
    · exact .inl h
    · exact .inr (.inl h)
    · exact absurd h (hno _)
/-- Two arguments are frozen. -/
theorem Snd_frz2 {f : FuncId} {a b a' b' v : V} {m m1 m2 : Mem} (ha : frz m a = some (a', m1)) (hb : frz m1 b = some (b', m2)) (h : Ans P f [a', b'] v) (hn : nfs [a', b'] = true) (hv : nf v = true) : Snd P f [a, b] m fun r => r = .ret v m2 := by
  intro ρ I w xs hr hl hrt
  simp only [Rt] at hrt
  obtain ⟨⟨x, hx, hxa⟩, ⟨y, hy, hyb⟩, _⟩ := hrt
  obtain ⟨I1, r1, s1, v1⟩ := frz_sound hr hxa ha
  obtain ⟨I2, r2, s2, v2⟩ := frz_sound r1 (RV.keep s1.keeps _ _ hyb) hb
  have hx' := RV.keep s2.keeps _ _ v1
  have := Snd_nf (m := m2) h hn hv ρ I2 w xs r2 (by simpa using hl) (by simp only [Rt]; exact ⟨⟨x, hx, hx'⟩, ⟨y, hy, v2⟩, trivial⟩)
  refine this.mono ?_
  rintro e w' ⟨r, rfl, x, ρ', I', e1, e2, e3, e4⟩
  exact ⟨.ret v m2, rfl, x, ρ', I', e1, e2, (s1.trans s2).trans e3, e4⟩
end
def tellR : CR → Option V
  | .ret u m1 => some (lendT m1 u)
  | .pan _ _ => none
theorem ans_runL {f : FuncId} {vs : List V} {v : V} (n : Nat) (h : (funX Try.prog n f vs []).map (List.map tellR) = some [some v]) (hv : nf v = true) : Ans Try.prog f vs v := by
  refine ans_lend ?_ hv
  cases e : funX Try.prog n f vs [] with
  | none => rw [e] at h; cases h
  | some l =>
    rw [e] at h
    simp only [Option.map_some, Option.some.injEq] at h
    refine (funX_good fol n _ _ _ _ e).mono fun r hr => ?_
    have : tellR r ∈ [some v] := h ▸ List.mem_map_of_mem hr
    cases r with
    | ret u m1 => exact ⟨m1, u, rfl, by simpa [tellR] using this⟩
    | pan u m1 => simp [tellR] at this
def ruW (a : Int) (b c : Nat) : Ru := ⟨a, fun i => if i = 5 then b else if i = 16 then 255 else 0, [[⟨1, 0, c⟩]], 0⟩
theorem ans12_111 : Ans Try.prog 12 [.int .i64 1, .int .u64 1, .int .u64 1] (ruV (ruW 1 1 1)) := ans_runL 300 (by kernel_rfl) (nf_ru _)
theorem ans12_222 : Ans Try.prog 12 [.int .i64 2, .int .u64 2, .int .u64 2] (ruV (ruW 2 2 2)) := ans_runL 300 (by kernel_rfl) (nf_ru _)
theorem ans12_333 : Ans Try.prog 12 [.int .i64 3, .int .u64 3, .int .u64 3] (ruV (ruW 3 3 3)) := ans_runL 300 (by kernel_rfl) (nf_ru _)
theorem ans12_112 : Ans Try.prog 12 [.int .i64 1, .int .u64 1, .int .u64 2] (ruV (ruW 1 1 2)) := ans_runL 300 (by kernel_rfl) (nf_ru _)
theorem wf_ruW {a : Int} {b c : Nat} (ha : (Lit.int .i64 a).wf = true) (hb : b < 18446744073709551616) (hc : (Lit.int .u64 (c : Int)).wf = true) : wfR (ruW a b c) := by
  refine ⟨ha, fun i _ => ?_, (show 1 < lim by decide), fun x hx => ?_⟩
  · simp only [ruW]
    split
    · exact hb
    · split <;> decide
  · simp only [ruW, List.mem_singleton] at hx
    subst hx
    refine ⟨(show 1 < lim by decide), fun y hy => ?_⟩
    simp only [List.mem_singleton] at hy
    subst hy
    exact ⟨rfl, rfl, hc⟩
theorem wf111 : wfR (ruW 1 1 1) := wf_ruW rfl (by decide) rfl
theorem wf222 : wfR (ruW 2 2 2) := wf_ruW rfl (by decide) rfl
theorem wf333 : wfR (ruW 3 3 3) := wf_ruW rfl (by decide) rfl
theorem wf112 : wfR (ruW 1 1 2) := wf_ruW rfl (by decide) rfl
theorem bt1 : btw [ruW 1 1 1, ruW 2 2 2] [ruW 2 2 2, ruW 3 3 3] = [⟨3, plR (ruW 1 1 1)⟩, ⟨0, ruW 3 3 3⟩] := by
  have h1 : remL [ruW 1 1 1, ruW 2 2 2] [ruW 2 2 2, ruW 3 3 3] = [⟨3, plR (ruW 1 1 1)⟩] := by kernel_rfl
  have h2 : addR [ruW 1 1 1, ruW 2 2 2] [ruW 2 2 2, ruW 3 3 3] = [ruW 3 3 3] := by kernel_rfl
  unfold btw addL
  rw [h1, h2, ssort_one]
  rfl
theorem bt2 : btw [ruW 1 1 1] [ruW 1 1 2] = [⟨0, ruW 1 1 2⟩] := by
  have h1 : remL [ruW 1 1 1] [ruW 1 1 2] = [] := by kernel_rfl
  have h2 : addR [ruW 1 1 1] [ruW 1 1 2] = [ruW 1 1 2] := by kernel_rfl
  unfold btw addL
  rw [h1, h2, ssort_one]
  rfl
theorem bt3 : btw [ruW 1 1 1, ruW 2 2 2] [ruW 2 2 2, ruW 1 1 1] = [] := by
  have h1 : remL [ruW 1 1 1, ruW 2 2 2] [ruW 2 2 2, ruW 1 1 1] = [] := by kernel_rfl
  have h2 : addR [ruW 1 1 1, ruW 2 2 2] [ruW 2 2 2, ruW 1 1 1] = [] := by kernel_rfl
  unfold btw addL
  rw [h1, h2]
  rfl
theorem bs22_2 (a b : Ru) (m : Mem) : bsliceV Try.prog 22 2 [(0, ruV a), (1, ruV b)] m = some (.sl 25 m.length 0 2, m ++ [.row 36 25 [ruC a, ruC b]]) := by
  have h1 : zeroE Try.prog 36 = some (.int .i64 0 :: (cl .u64 22 (fun _ => 0) ++ [.nils, .int .u64 0]), 25, 216) := by kernel_rfl
  have hs : stys ([(0, ruV a), (1, ruV b)].map (·.2)) = true := by
    have := nfs_ru2 a b
    simp [stys, this]
  unfold bsliceV
  simp only [un22, h1, frzQ_nf _ m hs]
  rfl
theorem frz_rs {m : Mem} {q : Nat} {l : List Ru} (h : m[q]? = some (.row 36 25 (l.map ruC))) : frz m (.sl 25 q 0 l.length) = some (rsV l, m.set q .dead) := by
  simp only [frz, h, List.length_map, Nat.zero_add, Nat.beq_refl, Nat.ble_self_eq_true, Bool.and_self, cond_true, List.drop_zero]
  rw [List.take_of_length_le (by simp)]
  rfl
/-- Between on two rows of rules that nobody wants any more. -/
theorem callD9 {m : Mem} {q1 q2 : Nat} {was now : List Ru} {K Kp' : V → Mem → Prop} (h1 : m[q1]? = some (.row 36 25 (was.map ruC))) (h2 : m[q2]? = some (.row 36 25 (now.map ruC))) (hne : q1 ≠ q2) (hw1 : ∀ r ∈ was, wfR r) (hw2 : ∀ r ∈ now, wfR r)
    (g1 : grt was = false) (g2 : grt now = false) (hk : K (msV (btw was now)) ((m.set q1 .dead).set q2 .dead)) : callD Try.prog 9 [.sl 25 q1 0 was.length, .sl 25 q2 0 now.length] m K Kp' :=
  callD_all (Snd_frz2 (frz_rs h1) (frz_rs (by rw [List.getElem?_set_ne hne]; exact h2)) (ans9 was now hw1 hw2 g1 g2) (nfs_cons (nf_rs _) (nfs_cons (nf_rs _) rfl)) (nf_ms _)) (by kernel_rfl) hk
theorem mem2 {a b : Ru} (ha : wfR a) (hb : wfR b) : ∀ r ∈ [a, b], wfR r := by
  intro r hr
  rcases List.mem_cons.1 hr with rfl | hr
  · exact ha
  · simp at hr; subst hr; exact hb
theorem mem1 {a : Ru} (ha : wfR a) : ∀ r ∈ [a], wfR r := by
  intro r hr
  simp at hr; subst hr; exact ha
theorem g7 : grt [ruW 1 1 1, ruW 2 2 2] = false ∧ grt [ruW 2 2 2, ruW 3 3 3] = false ∧ grt [ruW 2 2 2, ruW 1 1 1] = false ∧ grt [ruW 1 1 1] = false ∧ grt [ruW 1 1 2] = false := ⟨by kernel_rfl, by kernel_rfl, by kernel_rfl, by kernel_rfl, by kernel_rfl⟩
set_option maxHeartbeats 4000000 in
theorem ans7 : Ans Try.prog 7 [] (.bool true) := by
  refine Snd_of_W fol rfl rfl (by kernel_rfl) (by kernel_rfl) ?_
  simp -implicitDefEqProofs only [sims.1, fx.1, keeps.1, tick_on, calleeK, extractV, oneV, faddrK, nonnil, b_shr, b_shl, fieldK, Nat.reduceAdd, Nat.reduceMul, Nat.reduceSub, Nat.reduceEqDiff, Nat.reduceLT, Nat.reduceLeDiff, Nat.reduceBEq, Nat.reduceBNe, reduceIte, Int.reduceEq, Int.reduceLT, Int.reduceLE, Int.reduceNe, Int.reduceToNat]
  refine callD_ans ans12_111 en12 rfl (nf_ru _) ?_
  simp -implicitDefEqProofs only [sims.1, fx.1, keeps.1, tick_on, calleeK, extractV, oneV, faddrK, nonnil, b_shr, b_shl, fieldK, Nat.reduceAdd, Nat.reduceMul, Nat.reduceSub, Nat.reduceEqDiff, Nat.reduceLT, Nat.reduceLeDiff, Nat.reduceBEq, Nat.reduceBNe, reduceIte, Int.reduceEq, Int.reduceLT, Int.reduceLE, Int.reduceNe, Int.reduceToNat]
  refine callD_ans ans12_222 en12 rfl (nf_ru _) ?_
  simp -implicitDefEqProofs only [sims.1, fx.1, keeps.1, tick_on, calleeK, extractV, oneV, faddrK, nonnil, b_shr, b_shl, fieldK, Nat.reduceAdd, Nat.reduceMul, Nat.reduceSub, Nat.reduceEqDiff, Nat.reduceLT, Nat.reduceLeDiff, Nat.reduceBEq, Nat.reduceBNe, reduceIte, Int.reduceEq, Int.reduceLT, Int.reduceLE, Int.reduceNe, Int.reduceToNat, bs22_2]
  refine callD_ans ans12_222 en12 rfl (nf_ru _) ?_
  simp -implicitDefEqProofs only [sims.1, fx.1, keeps.1, tick_on, calleeK, extractV, oneV, faddrK, nonnil, b_shr, b_shl, fieldK, Nat.reduceAdd, Nat.reduceMul, Nat.reduceSub, Nat.reduceEqDiff, Nat.reduceLT, Nat.reduceLeDiff, Nat.reduceBEq, Nat.reduceBNe, reduceIte, Int.reduceEq, Int.reduceLT, Int.reduceLE, Int.reduceNe, Int.reduceToNat]
  refine callD_ans ans12_333 en12 rfl (nf_ru _) ?_
  simp -implicitDefEqProofs only [sims.1, fx.1, keeps.1, tick_on, calleeK, extractV, oneV, faddrK, nonnil, b_shr, b_shl, fieldK, Nat.reduceAdd, Nat.reduceMul, Nat.reduceSub, Nat.reduceEqDiff, Nat.reduceLT, Nat.reduceLeDiff, Nat.reduceBEq, Nat.reduceBNe, reduceIte, Int.reduceEq, Int.reduceLT, Int.reduceLE, Int.reduceNe, Int.reduceToNat, bs22_2]
  refine callD9 (was := [ruW 1 1 1, ruW 2 2 2]) (now := [ruW 2 2 2, ruW 3 3 3]) (by rfl) (by rfl) (by decide) (mem2 wf111 wf222) (mem2 wf222 wf333) g7.1 g7.2.1 ?_
  rw [bt1]
  simp -implicitDefEqProofs only [sims.1, fx.1, keeps.1, tick_on, calleeK, extractV, oneV, faddrK, nonnil, b_shr, b_shl, fieldK, Nat.reduceAdd, Nat.reduceMul, Nat.reduceSub, Nat.reduceEqDiff, Nat.reduceLT, Nat.reduceLeDiff, Nat.reduceBEq, Nat.reduceBNe, reduceIte, Int.reduceEq, Int.reduceLT, Int.reduceLE, Int.reduceNe, Int.reduceToNat]
  refine callD_ans ans12_111 en12 rfl (nf_ru _) ?_
  simp -implicitDefEqProofs only [sims.1, fx.1, keeps.1, tick_on, calleeK, extractV, oneV, faddrK, nonnil, b_shr, b_shl, fieldK, Nat.reduceAdd, Nat.reduceMul, Nat.reduceSub, Nat.reduceEqDiff, Nat.reduceLT, Nat.reduceLeDiff, Nat.reduceBEq, Nat.reduceBNe, reduceIte, Int.reduceEq, Int.reduceLT, Int.reduceLE, Int.reduceNe, Int.reduceToNat, bs22]
  refine callD_ans ans12_112 en12 rfl (nf_ru _) ?_
  simp -implicitDefEqProofs only [sims.1, fx.1, keeps.1, tick_on, calleeK, extractV, oneV, faddrK, nonnil, b_shr, b_shl, fieldK, Nat.reduceAdd, Nat.reduceMul, Nat.reduceSub, Nat.reduceEqDiff, Nat.reduceLT, Nat.reduceLeDiff, Nat.reduceBEq, Nat.reduceBNe, reduceIte, Int.reduceEq, Int.reduceLT, Int.reduceLE, Int.reduceNe, Int.reduceToNat, bs22]
  refine callD9 (was := [ruW 1 1 1]) (now := [ruW 1 1 2]) (by rfl) (by rfl) (by decide) (mem1 wf111) (mem1 wf112) g7.2.2.2.1 g7.2.2.2.2 ?_
  rw [bt2]
  have l2 : ∀ m : Mem, lenV Try.prog m 26 (msV [⟨3, plR (ruW 1 1 1)⟩, ⟨0, ruW 3 3 3⟩]) = some (.int .i64 2) := fun m => len_ms m _
  have l1 : ∀ m : Mem, lenV Try.prog m 26 (msV [⟨0, ruW 1 1 2⟩]) = some (.int .i64 1) := fun m => len_ms m _
  have l0 : ∀ m : Mem, lenV Try.prog m 26 (msV []) = some (.int .i64 0) := fun m => len_ms m _
  have d2 : decide ((2 : Int) = 2) = true := rfl
  have d1 : decide ((1 : Int) = 1) = true := rfl
  have d0 : decide ((0 : Int) = 0) = true := rfl
  simp -implicitDefEqProofs only [sims.1, fx.1, keeps.1, tick_on, calleeK, extractV, oneV, faddrK, nonnil, b_shr, b_shl, fieldK, Nat.reduceAdd, Nat.reduceMul, Nat.reduceSub, Nat.reduceEqDiff, Nat.reduceLT, Nat.reduceLeDiff, Nat.reduceBEq, Nat.reduceBNe, reduceIte, Int.reduceEq, Int.reduceLT, Int.reduceLE, Int.reduceNe, Int.reduceToNat, l2, l1, d2, d1]
  refine callD_ans ans12_111 en12 rfl (nf_ru _) ?_
  simp -implicitDefEqProofs only [sims.1, fx.1, keeps.1, tick_on, calleeK, extractV, oneV, faddrK, nonnil, b_shr, b_shl, fieldK, Nat.reduceAdd, Nat.reduceMul, Nat.reduceSub, Nat.reduceEqDiff, Nat.reduceLT, Nat.reduceLeDiff, Nat.reduceBEq, Nat.reduceBNe, reduceIte, Int.reduceEq, Int.reduceLT, Int.reduceLE, Int.reduceNe, Int.reduceToNat]
  refine callD_ans ans12_222 en12 rfl (nf_ru _) ?_
  simp -implicitDefEqProofs only [sims.1, fx.1, keeps.1, tick_on, calleeK, extractV, oneV, faddrK, nonnil, b_shr, b_shl, fieldK, Nat.reduceAdd, Nat.reduceMul, Nat.reduceSub, Nat.reduceEqDiff, Nat.reduceLT, Nat.reduceLeDiff, Nat.reduceBEq, Nat.reduceBNe, reduceIte, Int.reduceEq, Int.reduceLT, Int.reduceLE, Int.reduceNe, Int.reduceToNat, bs22_2]
  refine callD_ans ans12_222 en12 rfl (nf_ru _) ?_
  simp -implicitDefEqProofs only [sims.1, fx.1, keeps.1, tick_on, calleeK, extractV, oneV, faddrK, nonnil, b_shr, b_shl, fieldK, Nat.reduceAdd, Nat.reduceMul, Nat.reduceSub, Nat.reduceEqDiff, Nat.reduceLT, Nat.reduceLeDiff, Nat.reduceBEq, Nat.reduceBNe, reduceIte, Int.reduceEq, Int.reduceLT, Int.reduceLE, Int.reduceNe, Int.reduceToNat]
  refine callD_ans ans12_111 en12 rfl (nf_ru _) ?_
  simp -implicitDefEqProofs only [sims.1, fx.1, keeps.1, tick_on, calleeK, extractV, oneV, faddrK, nonnil, b_shr, b_shl, fieldK, Nat.reduceAdd, Nat.reduceMul, Nat.reduceSub, Nat.reduceEqDiff, Nat.reduceLT, Nat.reduceLeDiff, Nat.reduceBEq, Nat.reduceBNe, reduceIte, Int.reduceEq, Int.reduceLT, Int.reduceLE, Int.reduceNe, Int.reduceToNat, bs22_2]
  refine callD9 (was := [ruW 1 1 1, ruW 2 2 2]) (now := [ruW 2 2 2, ruW 1 1 1]) (by rfl) (by rfl) (by decide) (mem2 wf111 wf222) (mem2 wf222 wf111) g7.1 g7.2.2.1 ?_
  rw [bt3]
  have i0 : ∀ {k : IntKind}, iaddrS 36 (msV [⟨3, plR (ruW 1 1 1)⟩, ⟨0, ruW 3 3 3⟩]) (.int k 0) = some (.ip (meC ⟨3, plR (ruW 1 1 1)⟩)) := rfl
  have i1 : ∀ {k : IntKind}, iaddrS 36 (msV [⟨3, plR (ruW 1 1 1)⟩, ⟨0, ruW 3 3 3⟩]) (.int k 1) = some (.ip (meC ⟨0, ruW 3 3 3⟩)) := rfl
  have i2 : ∀ {k : IntKind}, iaddrS 36 (msV [⟨0, ruW 1 1 2⟩]) (.int k 0) = some (.ip (meC ⟨0, ruW 1 1 2⟩)) := rfl
  have e2 : ∀ x : Me, (List.drop 2 (meC x))[0]? = some (.int .i8 x.d) := fun _ => rfl
  have lM : ∀ x : Me, (meC x).length = 36 := fun _ => rfl
  have lD : ∀ x : Me, (List.drop 3 (meC x)).length = 33 := fun _ => rfl
  have e3 : ∀ x : Me, (List.drop 0 (List.drop 3 (meC x)))[0]? = some (.int .i64 x.r.rank) := fun _ => rfl
  have e4 : ∀ x : Me, (List.drop 23 (List.drop 3 (meC x)))[0]? = some (cpsV x.r.l) := fun _ => rfl
  have lc : ∀ m : Mem, lenV Try.prog m 34 (cpsV (plR (ruW 1 1 1)).l) = some (.int .i64 0) := fun m => len_cps m []
  have r1 : (plR (ruW 1 1 1)).rank = 1 := rfl
  have r3 : (ruW 3 3 3).rank = 3 := rfl
  have d3 : decide ((3 : Int) = 3) = true := rfl
  simp -implicitDefEqProofs only [sims.1, fx.1, keeps.1, tick_on, calleeK, extractV, oneV, faddrK, nonnil, b_shr, b_shl, fieldK, Nat.reduceAdd, Nat.reduceMul, Nat.reduceSub, Nat.reduceEqDiff, Nat.reduceLT, Nat.reduceLeDiff, Nat.reduceBEq, Nat.reduceBNe, reduceIte, Int.reduceEq, Int.reduceLT, Int.reduceLE, Int.reduceNe, Int.reduceToNat, l0, d0, i0, i1, i2, e2, lM, lD, e3, e4, lc, r1, r3, d1, d3]
  exact ans_ret rfl
/-- The program and the document tell the same. -/
theorem ans3 (was now : List Ru) (hw1 : ∀ r ∈ was, wfR r) (hw2 : ∀ r ∈ now, wfR r) (hl1 : was.length < 9223372036854775807) (hl2 : now.length < 9223372036854775807) : Ans Try.prog 3 [rsV was, rsV now] (.bool true) := by
  refine Snd_of_W fol rfl rfl (by kernel_rfl) (by kernel_rfl) ?_
  have a1 := ans6 was hw1 hl1
  have a2 := ans6 now hw2 hl2
  simp -implicitDefEqProofs only [sims.1, fx.1, keeps.1, tick_on, calleeK, extractV, oneV, faddrK, nonnil, b_shr, b_shl, fieldK, Nat.reduceAdd, Nat.reduceMul, Nat.reduceSub, Nat.reduceEqDiff, Nat.reduceLT, Nat.reduceLeDiff, Nat.reduceBEq, Nat.reduceBNe, reduceIte, Int.reduceEq, Int.reduceLT, Int.reduceLE, Int.reduceNe, Int.reduceToNat]
  refine callD_ans a1 en6 (nfs_cons (nf_rs _) rfl) rfl ?_
  cases g1 : grt was
  · simp -implicitDefEqProofs only [sims.1, fx.1, keeps.1, tick_on, calleeK, extractV, oneV, faddrK, nonnil, b_shr, b_shl, fieldK, Nat.reduceAdd, Nat.reduceMul, Nat.reduceSub, Nat.reduceEqDiff, Nat.reduceLT, Nat.reduceLeDiff, Nat.reduceBEq, Nat.reduceBNe, reduceIte, Int.reduceEq, Int.reduceLT, Int.reduceLE, Int.reduceNe, Int.reduceToNat]
    refine callD_ans a2 en6 (nfs_cons (nf_rs _) rfl) rfl ?_
    cases g2 : grt now
    · simp -implicitDefEqProofs only [sims.1, fx.1, keeps.1, tick_on, calleeK, extractV, oneV, faddrK, nonnil, b_shr, b_shl, fieldK, Nat.reduceAdd, Nat.reduceMul, Nat.reduceSub, Nat.reduceEqDiff, Nat.reduceLT, Nat.reduceLeDiff, Nat.reduceBEq, Nat.reduceBNe, reduceIte, Int.reduceEq, Int.reduceLT, Int.reduceLE, Int.reduceNe, Int.reduceToNat]
      refine callD_ans (ans9 was now hw1 hw2 g1 g2) en9 (nfs_cons (nf_rs _) (nfs_cons (nf_rs _) rfl)) (nf_ms _) ?_
      simp -implicitDefEqProofs only [sims.1, fx.1, keeps.1, tick_on, calleeK, extractV, oneV, faddrK, nonnil, b_shr, b_shl, fieldK, Nat.reduceAdd, Nat.reduceMul, Nat.reduceSub, Nat.reduceEqDiff, Nat.reduceLT, Nat.reduceLeDiff, Nat.reduceBEq, Nat.reduceBNe, reduceIte, Int.reduceEq, Int.reduceLT, Int.reduceLE, Int.reduceNe, Int.reduceToNat]
      refine callD_ans (ans10 was now hw1 hw2 g1 g2) en10 (nfs_cons (nf_rs _) (nfs_cons (nf_rs _) rfl)) (nf_ms _) ?_
      simp -implicitDefEqProofs only [sims.1, fx.1, keeps.1, tick_on, calleeK, extractV, oneV, faddrK, nonnil, b_shr, b_shl, fieldK, Nat.reduceAdd, Nat.reduceMul, Nat.reduceSub, Nat.reduceEqDiff, Nat.reduceLT, Nat.reduceLeDiff, Nat.reduceBEq, Nat.reduceBNe, reduceIte, Int.reduceEq, Int.reduceLT, Int.reduceLE, Int.reduceNe, Int.reduceToNat]
      have hb := btw_len was now
      have b1 := (grt_small g1).1
      have b2 := (grt_small g2).1
      refine callD_ans (ans8 _ _ (btw_wf hw1 hw2) (btw_wf hw1 hw2) (by unfold lim; omega)) en8 (nfs_cons (nf_ms _) (nfs_cons (nf_ms _) rfl)) rfl ?_
      rw [allM_refl]
      simp -implicitDefEqProofs only [sims.1, fx.1, keeps.1, tick_on, calleeK, extractV, oneV, faddrK, nonnil, b_shr, b_shl, fieldK, Nat.reduceAdd, Nat.reduceMul, Nat.reduceSub, Nat.reduceEqDiff, Nat.reduceLT, Nat.reduceLeDiff, Nat.reduceBEq, Nat.reduceBNe, reduceIte, Int.reduceEq, Int.reduceLT, Int.reduceLE, Int.reduceNe, Int.reduceToNat]
      refine callD_ans ans7 en7 rfl rfl ?_
      simp -implicitDefEqProofs only [sims.1, fx.1, keeps.1, tick_on, calleeK, extractV, oneV, faddrK, nonnil, b_shr, b_shl, fieldK, Nat.reduceAdd, Nat.reduceMul, Nat.reduceSub, Nat.reduceEqDiff, Nat.reduceLT, Nat.reduceLeDiff, Nat.reduceBEq, Nat.reduceBNe, reduceIte, Int.reduceEq, Int.reduceLT, Int.reduceLE, Int.reduceNe, Int.reduceToNat]
      exact ans_ret rfl
    · simp -implicitDefEqProofs only [sims.1, fx.1, keeps.1, tick_on, calleeK, extractV, oneV, faddrK, nonnil, b_shr, b_shl, fieldK, Nat.reduceAdd, Nat.reduceMul, Nat.reduceSub, Nat.reduceEqDiff, Nat.reduceLT, Nat.reduceLeDiff, Nat.reduceBEq, Nat.reduceBNe, reduceIte, Int.reduceEq, Int.reduceLT, Int.reduceLE, Int.reduceNe, Int.reduceToNat]
      refine callD_ans ans7 en7 rfl rfl ?_
      simp -implicitDefEqProofs only [sims.1, fx.1, keeps.1, tick_on, calleeK, extractV, oneV, faddrK, nonnil, b_shr, b_shl, fieldK, Nat.reduceAdd, Nat.reduceMul, Nat.reduceSub, Nat.reduceEqDiff, Nat.reduceLT, Nat.reduceLeDiff, Nat.reduceBEq, Nat.reduceBNe, reduceIte, Int.reduceEq, Int.reduceLT, Int.reduceLE, Int.reduceNe, Int.reduceToNat]
      exact ans_ret rfl
  · simp -implicitDefEqProofs only [sims.1, fx.1, keeps.1, tick_on, calleeK, extractV, oneV, faddrK, nonnil, b_shr, b_shl, fieldK, Nat.reduceAdd, Nat.reduceMul, Nat.reduceSub, Nat.reduceEqDiff, Nat.reduceLT, Nat.reduceLeDiff, Nat.reduceBEq, Nat.reduceBNe, reduceIte, Int.reduceEq, Int.reduceLT, Int.reduceLE, Int.reduceNe, Int.reduceToNat]
    refine callD_ans ans7 en7 rfl rfl ?_
    simp -implicitDefEqProofs only [sims.1, fx.1, keeps.1, tick_on, calleeK, extractV, oneV, faddrK, nonnil, b_shr, b_shl, fieldK, Nat.reduceAdd, Nat.reduceMul, Nat.reduceSub, Nat.reduceEqDiff, Nat.reduceLT, Nat.reduceLeDiff, Nat.reduceBEq, Nat.reduceBNe, reduceIte, Int.reduceEq, Int.reduceLT, Int.reduceLE, Int.reduceNe, Int.reduceToNat]
    exact ans_ret rfl
end Go.Proofs.Ytggdnepfahknbaa
