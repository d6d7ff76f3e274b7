/- TuplesFull: there is room for 1024 rules. No condition. -/
import Derived.Test.YtffhmbdpmpgddaaWu
import Derived.Test.YtffhmbdpmpgddaaTa
import Derived.Test.YtffhmbdpmpgddaaWf
namespace Go.Proofs.Ytffhmbdpmpgddaa
open Go Ab
set_option linter.unusedSimpArgs false
set_option linter.unusedVariables false
set_option maxRecDepth 20000

theorem cutBlk {P : Program} {K0 : Nat} {R : List Nat} {c : Code} {E : Nat → List Nat} {L : List Nat} {env : Env} {m : Mem} {id : Nat} {K : Env → Mem → Prop} {Q : Ex → Env → Mem → Prop} (C : Env → Mem → Prop)
    (h : W P K0 R c E L env m (blockQ id (seqQ C Q))) (hK : ∀ e m, C e m → K e m) : W P K0 R c E L env m (blockQ id (seqQ K Q)) := by
  refine W_mono _ _ _ _ _ _ _ (fun ex e m hh => ?_) h
  cases ex with
  | nrm => exact hK e m hh
  | ret => exact hh
  | pan v => exact hh
  | exit i =>
    simp only [blockQ] at hh ⊢
    cases hb : Nat.beq i id with
    | true => rw [hb] at hh; exact hK e m hh
    | false => rw [hb] at hh; exact hh
theorem pe26 (n o : Nat) (env : Env) : binV Try.prog .eql 26 (.ptr n o) (evO env (.const (.pointer none))) = some (.bool false) := rfl
def rk (n : Nat) : Ru := ⟨(n : Int), fun _ => 0, .nils, .int .u64 0⟩
theorem wf_rk (n : Nat) : wfR (rk n) ∧ chk (rk n).w = true := ⟨⟨fun i _ => by simp [rk], rfl, rfl⟩, by show chk (fun _ => 0) = true; decide⟩
theorem b32 (n : Nat) : buildV Try.prog 32 [(0, .int .i64 (n : Int))] = some (.agg (ruC (rk n))) := by kernel_rfl
theorem b32z : buildV Try.prog 32 [] = some (.agg (ruC (rk 0))) := by kernel_rfl
set_option maxHeartbeats 1000000 in
theorem snd8f {m : Mem} {p : Nat} {T : Tbl} {r : Ru} (h : TB m p T) (hr : U64 22 r.w) (hc : chk r.w = true) (hroom : 1024 ≤ T.at_.length) : Snd Try.prog 8 [.ptr p 0, .agg (ruC r)] m fun q => q = .ret (.tup [.int .i64 0, .int .i64 4]) (m ++ [.var 32 (ruC r)]) := by
  refine Snd_of_W fol rfl rfl (by kernel_rfl) (by kernel_rfl) ?_
  have pM : partK true 22 (ruC r) 1 = some (mv r.w) := rfl
  have a18 : Ans Try.prog 18 [mv r.w] (.int .i64 0) := by
    have := ans18 r.w hr
    rwa [hc] at this
  have hB : (m ++ [B.var 32 (ruC r)])[m.length]? = some (B.var 32 (ruC r)) := by simp
  have e0 : decide ((0 : Int) = 0) = true := rfl
  have h0 := h.app [B.var 32 (ruC r)]
  have tc : ∀ T, (tbC T)[1]? = some (.mp T.a) := fun _ => rfl
  have hlen := len_at h0.ta
  rw [List.length_map] at hlen
  have hrm : decide ((1024 : Int) ≤ (T.at_.length : Int)) = true := by simp; omega
  simp -implicitDefEqProofs only [sims.1, fx.1, keeps.1, tick_on, calleeK, extractV, oneV, faddrK, nonnil, b_shr, b_shl, fieldK, Nat.reduceAdd, Nat.reduceMul, Nat.reduceSub, Nat.reduceEqDiff, Nat.reduceLT, Nat.reduceLeDiff, Nat.reduceBEq, Nat.reduceBNe, reduceIte, Int.reduceEq, Int.reduceLT, Int.reduceLE, Int.reduceNe, Int.reduceToNat, pe26, hB, pM]
  refine callD_ans a18 en18 (by simp only [nfs, nf, mv, nfs_cl, Bool.and_self]) rfl ?_
  simp -implicitDefEqProofs only [sims.1, fx.1, keeps.1, tick_on, calleeK, extractV, oneV, faddrK, nonnil, b_shr, b_shl, fieldK, Nat.reduceAdd, Nat.reduceMul, Nat.reduceSub, Nat.reduceEqDiff, Nat.reduceLT, Nat.reduceLeDiff, Nat.reduceBEq, Nat.reduceBNe, reduceIte, Int.reduceEq, Int.reduceLT, Int.reduceLE, Int.reduceNe, Int.reduceToNat, e0, h0.tp, tc, hlen, hrm]
def Lf (j : Nat) : List (Int × Ru) := (List.range j).map fun i => (((i + 1 : Nat) : Int), rk (i % 7))
theorem Lf_step (j : Nat) : Lf (j + 1) = Lf j ++ [(((j + 1 : Nat) : Int), rk (j % 7))] := by
  unfold Lf
  rw [List.range_succ, List.map_append]
  rfl
theorem fsts_one : ∀ {l : List (Nat → Nat)} {z : Nat → Nat}, l ≠ [] → (∀ a ∈ l, eqH a z = true) → fsts l = 1
  | [], _, h, _ => absurd rfl h
  | [a], z, _, h => by simp [fsts]
  | a :: b :: r, z, _, h => by
    have h1 : ((b :: r).any fun c => eqH c a) = true := List.any_eq_true.2 ⟨b, by simp, eqH_trans (h b (by simp)) (eqH_symm (h a (by simp)))⟩
    rw [fsts, h1, fsts_one (l := b :: r) (by simp) fun c hc => h c (by simp [hc])]
    rfl
structure Fu (mm : Mem) (j : Nat) (T : Tbl) : Prop where
  tb : TB mm 1 T
  inv : Inv2 T (Lf j)
  bn : Bn T j
theorem Lf_len (j : Nat) : (Lf j).length = j := by simp [Lf]
theorem at_len {T : Tbl} {L : List (Int × Ru)} (h : Inv2 T L) : T.at_.length = L.length := by rw [h.at_, List.length_map]
theorem flt_len : (flt 5 (Lf 1024)).length < 1024 := by decide +kernel
set_option maxHeartbeats 8000000 in
theorem ans6 : Ans Try.prog 6 [] (.bool true) := by
  refine Snd_of_W fol rfl rfl (by kernel_rfl) (by kernel_rfl) ?_
  simp -implicitDefEqProofs only [sims.1, fx.1, keeps.1, tick_on, calleeK, extractV, oneV, faddrK, nonnil, b_shr, b_shl, fieldK, Nat.reduceAdd, Nat.reduceMul, Nat.reduceSub, Nat.reduceEqDiff, Nat.reduceLT, Nat.reduceLeDiff, Nat.reduceBEq, Nat.reduceBNe, reduceIte, Int.reduceEq, Int.reduceLT, Int.reduceLE, Int.reduceNe, Int.reduceToNat]
  refine callD_all snd7 en7 ?_
  simp -implicitDefEqProofs only [sims.1, fx.1, keeps.1, tick_on, calleeK, extractV, oneV, faddrK, nonnil, b_shr, b_shl, fieldK, Nat.reduceAdd, Nat.reduceMul, Nat.reduceSub, Nat.reduceEqDiff, Nat.reduceLT, Nat.reduceLeDiff, Nat.reduceBEq, Nat.reduceBNe, reduceIte, Int.reduceEq, Int.reduceLT, Int.reduceLE, Int.reduceNe, Int.reduceToNat]
  refine cutBlk (fun e mm => e 1 = .ptr 1 0 ∧ ∃ T, Fu mm 1024 T) ?_ ?_
  · refine W_loopM (fun j : Nat => [(9, .int .i64 (j : Int)), (1, .ptr 1 0)])
      (fun j mm => j ≤ 1024 ∧ ∃ T, Fu mm j T) (fun j => 1024 - j) 0 (by kernel_rfl) ⟨by decide, _, tb_new, Inv2.new rfl rfl, ⟨fun _ h => by simp [newT] at h, fun _ h => by simp [newT] at h, Nat.le_refl _, fun _ h => by simp [newT] at h, fun _ h => by simp [newT] at h, rfl, Nat.le_refl _, fun _ h => by simp [newT] at h⟩⟩ ?_
    rintro j mm ⟨h1, T, hF⟩
    have gj : decide ((j : Int) < 1024) = decide (j < 1024) := by rw [Bool.eq_iff_iff, decide_eq_true_eq, decide_eq_true_eq]; omega
    rcases Nat.lt_or_ge j 1024 with hj | hj
    · have c1 : decide (j < 1024) = true := by simpa using hj
      have w1 := wrap_i64s j (by omega)
      have tm : (j : Int).tmod 7 = ((j % 7 : Nat) : Int) := rfl
      have d7 : ((7 : Int) = 0) = False := by simp
      have hl := at_len hF.inv
      rw [Lf_len] at hl
      simp -implicitDefEqProofs only [sims.1, fx.1, keeps.1, tick_on, calleeK, extractV, oneV, faddrK, nonnil, b_shr, b_shl, fieldK, Nat.reduceAdd, Nat.reduceMul, Nat.reduceSub, Nat.reduceEqDiff, Nat.reduceLT, Nat.reduceLeDiff, Nat.reduceBEq, Nat.reduceBNe, reduceIte, Int.reduceEq, Int.reduceLT, Int.reduceLE, Int.reduceNe, Int.reduceToNat, gj, c1, tm, d7, b32, if_false]
      refine callD_allQ (snd8 hF.tb (hF.bn.ok (by omega)) (wf_rk _).1.1 (wf_rk _).2 (by omega)) en8 ?_
      rintro rr ⟨m', T', rfl, htb, hadd, hk1, hpos⟩
      refine ⟨_, _, rfl, ?_⟩
      have hlst : T.last + 1 = ((j + 1 : Nat) : Int) := by rw [hF.bn.last]; omega
      have dnn : decide (((j + 1 : Nat) : Int) = ((j + 1 : Nat) : Int)) = true := by simp
      have d00 : decide ((0 : Int) = 0) = true := rfl
      simp -implicitDefEqProofs only [sims.1, fx.1, keeps.1, tick_on, calleeK, extractV, oneV, faddrK, nonnil, b_shr, b_shl, fieldK, Nat.reduceAdd, Nat.reduceMul, Nat.reduceSub, Nat.reduceEqDiff, Nat.reduceLT, Nat.reduceLeDiff, Nat.reduceBEq, Nat.reduceBNe, reduceIte, Int.reduceEq, Int.reduceLT, Int.reduceLE, Int.reduceNe, Int.reduceToNat, hlst, dnn, d00, w1]
      refine ⟨j + 1, by kernel_rfl, ⟨hj, T', htb, ?_, hF.bn.added hadd (wf_rk _).1.1⟩, by omega⟩
      rw [Lf_step, ← hlst]
      exact hF.inv.added hadd (by rw [hF.bn.last]; omega)
    · have c1 : decide (j < 1024) = false := by simpa using hj
      obtain rfl : j = 1024 := by omega
      simp -implicitDefEqProofs only [sims.1, fx.1, keeps.1, tick_on, calleeK, extractV, oneV, faddrK, nonnil, b_shr, b_shl, fieldK, Nat.reduceAdd, Nat.reduceMul, Nat.reduceSub, Nat.reduceEqDiff, Nat.reduceLT, Nat.reduceLeDiff, Nat.reduceBEq, Nat.reduceBNe, reduceIte, Int.reduceEq, Int.reduceLT, Int.reduceLE, Int.reduceNe, Int.reduceToNat, gj, c1]
      exact ⟨by trivial, T, hF⟩
  · rintro e mm ⟨e1, T, hF⟩
    have hl := at_len hF.inv
    rw [Lf_len] at hl
    simp -implicitDefEqProofs only [sims.1, fx.1, keeps.1, tick_on, calleeK, extractV, oneV, faddrK, nonnil, b_shr, b_shl, fieldK, Nat.reduceAdd, Nat.reduceMul, Nat.reduceSub, Nat.reduceEqDiff, Nat.reduceLT, Nat.reduceLeDiff, Nat.reduceBEq, Nat.reduceBNe, reduceIte, Int.reduceEq, Int.reduceLT, Int.reduceLE, Int.reduceNe, Int.reduceToNat, e1, b32z]
    refine callD_all (snd8f hF.tb (wf_rk 0).1.1 (wf_rk 0).2 (by omega)) en8 ?_
    have d44 : decide ((4 : Int) = 4) = true := rfl
    simp -implicitDefEqProofs only [sims.1, fx.1, keeps.1, tick_on, calleeK, extractV, oneV, faddrK, nonnil, b_shr, b_shl, fieldK, Nat.reduceAdd, Nat.reduceMul, Nat.reduceSub, Nat.reduceEqDiff, Nat.reduceLT, Nat.reduceLeDiff, Nat.reduceBEq, Nat.reduceBNe, reduceIte, Int.reduceEq, Int.reduceLT, Int.reduceLE, Int.reduceNe, Int.reduceToNat, e1, d44]
    have hT1 := hF.tb.app [.var 32 (ruC (rk 0))]
    refine callD_allQ (snd13u (id := 5) hT1 hF.inv hF.bn (by decide) fun x hx => ?_) en13 ?_
    · obtain ⟨i, _, rfl⟩ := List.mem_map.1 hx
      exact (wf_rk _).1.1
    rintro rr ⟨m', T', rfl, g1, g2, g3, g4, g5, g6⟩
    refine ⟨_, _, rfl, ?_⟩
    have dlt : decide ((flt 5 (Lf 1024)).length < (Lf 1024).length) = true := decide_eq_true (by rw [Lf_len]; exact flt_len)
    simp -implicitDefEqProofs only [sims.1, fx.1, keeps.1, tick_on, calleeK, extractV, oneV, faddrK, nonnil, b_shr, b_shl, fieldK, Nat.reduceAdd, Nat.reduceMul, Nat.reduceSub, Nat.reduceEqDiff, Nat.reduceLT, Nat.reduceLeDiff, Nat.reduceBEq, Nat.reduceBNe, reduceIte, Int.reduceEq, Int.reduceLT, Int.reduceLE, Int.reduceNe, Int.reduceToNat, e1, dlt, b32z]
    have hl2 := at_len g2
    have hfl := flt_len
    refine callD_allQ (snd8 g1 (g3.ok (by decide)) (wf_rk 0).1.1 (wf_rk 0).2 (by omega)) en8 ?_
    rintro rr ⟨m2, T2, rfl, q1, q2, q3, q4⟩
    refine ⟨_, _, rfl, ?_⟩
    have hlst : T'.last + 1 = 1025 := by rw [g3.last]; rfl
    have d1025 : decide ((1025 : Int) = 1025) = true := rfl
    have d00 : decide ((0 : Int) = 0) = true := rfl
    simp -implicitDefEqProofs only [sims.1, fx.1, keeps.1, tick_on, calleeK, extractV, oneV, faddrK, nonnil, b_shr, b_shl, fieldK, Nat.reduceAdd, Nat.reduceMul, Nat.reduceSub, Nat.reduceEqDiff, Nat.reduceLT, Nat.reduceLeDiff, Nat.reduceBEq, Nat.reduceBNe, reduceIte, Int.reduceEq, Int.reduceLT, Int.reduceLE, Int.reduceNe, Int.reduceToNat, e1, hlst, d1025, d00]
    have hinv := g2.added q2 (by rw [g3.last]; decide)
    have hrows : T2.rows.length = 1 := by
      rw [hinv.rows]
      refine fsts_one (z := fun _ => 0) (by simp) fun a ha => ?_
      obtain ⟨q, hq, rfl⟩ := List.mem_map.1 ha
      rw [List.mem_reverse] at hq
      rcases List.mem_append.1 hq with hq | hq
      · obtain ⟨i, _, rfl⟩ := List.mem_map.1 (List.mem_filter.1 hq).1
        exact eqH_refl _
      · rw [List.mem_singleton.1 hq]
        exact eqH_refl _
    have s16 := snd16 q1
    rw [hrows] at s16
    refine callD_all s16 en16 ?_
    have d11 : decide (((1 : Nat) : Int) = 1) = true := rfl
    simp -implicitDefEqProofs only [sims.1, fx.1, keeps.1, tick_on, calleeK, extractV, oneV, faddrK, nonnil, b_shr, b_shl, fieldK, Nat.reduceAdd, Nat.reduceMul, Nat.reduceSub, Nat.reduceEqDiff, Nat.reduceLT, Nat.reduceLeDiff, Nat.reduceBEq, Nat.reduceBNe, reduceIte, Int.reduceEq, Int.reduceLT, Int.reduceLE, Int.reduceNe, Int.reduceToNat, d11]
    refine callD_ans ans11 en11 rfl rfl ?_
    simp -implicitDefEqProofs only [sims.1, fx.1, keeps.1, tick_on, calleeK, extractV, oneV, faddrK, nonnil, b_shr, b_shl, fieldK, Nat.reduceAdd, Nat.reduceMul, Nat.reduceSub, Nat.reduceEqDiff, Nat.reduceLT, Nat.reduceLeDiff, Nat.reduceBEq, Nat.reduceBNe, reduceIte, Int.reduceEq, Int.reduceLT, Int.reduceLE, Int.reduceNe, Int.reduceToNat]
    exact ans_ret rfl
end Go.Proofs.Ytffhmbdpmpgddaa
