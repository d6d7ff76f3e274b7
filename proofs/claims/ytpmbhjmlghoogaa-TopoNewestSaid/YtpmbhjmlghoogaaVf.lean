/- Hosts, and what is answered to a question that is read. No condition. -/
import Derived.Test.YtpmbhjmlghoogaaPd
import Derived.Test.YtpmbhjmlghoogaaVa
namespace Go.Proofs.Ytpmbhjmlghoogaa
open Go Ab
set_option linter.unusedSimpArgs false
set_option linter.unusedVariables false
set_option maxRecDepth 20000

/-! ### The map's hosts -/
def hsE (x : Nat × Nat) : V × V := (.int .u32 (x.1 : Int), .agg [.int .u64 (x.2 : Int)])
def hsM (hs : List (Nat × Nat)) : List (V × V) := hs.map hsE
def hsB (hs : List (Nat × Nat)) : B := .map (hsM hs) (List.range hs.length) hs.length
def hsF (q : Nat) : List (Nat × Nat) → Nat → Option (Nat × Nat)
  | [], _ => none
  | x :: r, i => bif decide (q = x.1) then some (i, x.2) else hsF q r (i + 1)
def hsP (hs : List (Nat × Nat)) (f m : Nat) : List (Nat × Nat) := match hsF f hs 0 with
  | some (i, _) => hs.set i (f, m)
  | none => hs ++ [(f, m)]
theorem eqK43 (a b : Int) : eqK Try.prog 43 (.int .u32 a) (.int .u32 b) = some (decide (a = b)) := by kernel_rfl
theorem un69 : Try.prog.underlying 69 = some (.map 43 96) := by kernel_rfl
theorem zero96 : zeroV Try.prog 96 = some (.agg [.int .u64 0]) := by kernel_rfl
theorem key43 (q : Nat) : keyV Try.prog 43 (.int .u32 (q : Int)) = true := by kernel_rfl
theorem findV_hs {q : Nat} : ∀ {hs : List (Nat × Nat)} {i : Nat}, findV Try.prog 43 (.int .u32 (q : Int)) (hsM hs) i = some ((hsF q hs i).map fun x => (x.1, V.agg [.int .u64 (x.2 : Int)]))
  | [], _ => rfl
  | x :: r, i => by
    have e : eqK Try.prog 43 (.int .u32 (q : Int)) (.int .u32 (x.1 : Int)) = some (decide (q = x.1)) := by
      rw [eqK43]
      congr 1
      rw [Bool.eq_iff_iff, decide_eq_true_eq, decide_eq_true_eq]
      omega
    simp only [hsM, List.map_cons, hsE, findV, e, hsF]
    cases decide (q = x.1) with
    | true => rfl
    | false => exact findV_hs
theorem look_hs {q : Nat} {hs : List (Nat × Nat)} {m : Mem} {k : Nat} (h : m[k]? = some (hsB hs)) : lookupV Try.prog 69 m (.mp k) (.int .u32 (q : Int)) true = some (match hsF q hs 0 with | some (_, v) => .tup [.agg [.int .u64 (v : Int)], .bool true] | none => .tup [.agg [.int .u64 0], .bool false]) := by
  simp only [lookupV, un69, key43, cond_true, h, hsB, findV_hs]
  cases hsF q hs 0 with
  | none => simp [zero96]
  | some x => rfl
theorem hsF_at {q : Nat} : ∀ {hs : List (Nat × Nat)} {i j v : Nat}, hsF q hs i = some (j, v) → i ≤ j ∧ hs[j - i]? = some (q, v)
  | [], _, _, _, h => by cases h
  | x :: r, i, j, v, h => by
    simp only [hsF] at h
    by_cases hq : q = x.1
    · rw [show decide (q = x.1) = true by simpa using hq, cond_true] at h
      cases h
      refine ⟨Nat.le_refl _, ?_⟩
      rw [Nat.sub_self, hq]
      rfl
    · rw [show decide (q = x.1) = false by simpa using hq, cond_false] at h
      obtain ⟨h1, h2⟩ := hsF_at h
      refine ⟨by omega, ?_⟩
      rw [show j - i = (j - (i + 1)) + 1 by omega]
      exact h2
theorem put_hs {f v : Nat} {hs : List (Nat × Nat)} (a b c : B) (m : Mem) : putV Try.prog 69 (a :: b :: c :: hsB hs :: m) (.mp 3) (.int .u32 (f : Int)) (.agg [.int .u64 (v : Int)]) = some (a :: b :: c :: hsB (hsP hs f v) :: m) := by
  have h3 : (a :: b :: c :: B.map (hsM hs) (List.range hs.length) hs.length :: m)[3]? = some (B.map (hsM hs) (List.range hs.length) hs.length) := rfl
  simp only [putV, un69, key43, cond_true, hsB, h3, findV_hs]
  cases e : hsF f hs 0 with
  | none =>
    have e1 : hsP hs f v = hs ++ [(f, v)] := by simp only [hsP, e]
    rw [e1]
    simp only [Option.map_none, hsM, List.map_append, List.map_cons, List.map_nil, List.length_append, List.length_cons, List.length_nil, List.range_succ, Nat.zero_add]
    rfl
  | some x =>
    obtain ⟨i, w⟩ := x
    have e1 : hsP hs f v = hs.set i (f, v) := by simp only [hsP, e]
    obtain ⟨_, h2⟩ := hsF_at e
    rw [Nat.sub_zero] at h2
    have h4 : (List.map hsE hs)[i]? = some (hsE (f, w)) := by simp only [List.getElem?_map, h2, Option.map_some]
    have h5 : sameK (V.int .u32 (f : Int)) (V.int .u32 (f : Int)) = true := by simp [sameK]
    rw [e1]
    simp only [Option.map_some, hsM, List.map_set, List.length_set, h4]
    simp only [hsE, h5, cond_true]
    rfl
theorem nfp_hs : ∀ hs : List (Nat × Nat), nfp (hsM hs) = true
  | [] => rfl
  | g :: r => by
    have := nfp_hs r
    simp only [hsM] at this
    simp only [hsM, List.map_cons, nfp, hsE, this, Bool.and_true]
    rfl
theorem nfB_hs (hs : List (Nat × Nat)) : nfB (hsB hs) = true := nfp_hs hs

/-! ### A question comes -/
def qst (m f q : Nat) : Hd := aH m 281474976710655 f q
def hsQ (hs : List (Nat × Nat)) (f m : Nat) : List (Nat × Nat) := if f = 0 then hs else hsP hs f m
def answ (m f q : Nat) (hs : List (Nat × Nat)) : V := match hsF q hs 0 with
  | some (_, mac) => .tup [byV (ansL mac (qst m f q) [1]), .bool (decide (ansE mac (qst m f q) [1] = 0))]
  | none => .tup [.nils, .bool false]
theorem nf_answ (m f q : Nat) (hs : List (Nat × Nat)) : nf (answ m f q hs) = true := by
  unfold answ
  split
  · simp only [nf, nfs, nf_by, Bool.and_self]
  · rfl
theorem neq0 (x : Nat) : decide ((x : Int) = 0) = decide (x = 0) := by rw [Bool.eq_iff_iff, decide_eq_true_eq, decide_eq_true_eq]; omega
set_option maxHeartbeats 4000000 in
theorem snd16e {n a t : Int} {gs : List Gt} {bs : List Nat} {clk i : Nat} {S : B} {hs : List (Nat × Nat)} {s p m f q : Nat} {d : Bool} (hs1 : s < 65536) (hp : p < 65536) (hgs : GtOk gs) (hg : gtF s p gs 0 = some (i, true, d)) (hS : nfB S = true)
    (hm : m < 281474976710656) (hf : f < 4294967296) (hq : q < 4294967296) (hmac : ∀ x ∈ hsQ hs f m, x.2 < 18446744073709551616) :
    Snd Try.prog 16 [.ptr 0 0, spA s p, byV (frmR (qst m f q) [1])] (lay n a t (gtB gs bs clk) S (hsB hs)) fun r => r = .ret (answ m f q (hsQ hs f m)) (lay n a t (gtB gs bs clk) S (hsB (hsQ hs f m))) := by
  refine Snd_dropW rfl (lay_closed (nfB_gt _ _ _) hS (nfB_hs _)) (nf_answ _ _ _ _) ?_
  refine Snd_of_W fol rfl rfl (by kernel_rfl) (by kernel_rfl) ?_
  have hfv := findV_gt hs1 hp (i := 0) hgs
  rw [hg] at hfv
  simp only [Option.map_some] at hfv
  have pk : partK true 2 (spC s p) 0 = some (.agg (spC s p)) := rfl
  have pn : nms (.agg (spC s p)) = [] := rfl
  have lk := fun m n => look_gt hs1 hp (m := m) (n := n)
  unfold spA at hfv lk
  have sp : ∀ x y : Bool, splice [V.bool false, V.bool false] 0 (cellsOfV (V.agg [.bool x, .bool y])) = [.bool x, .bool y] := fun _ _ => rfl
  have hu : U64h (qst m f q) := aH_u64 _ _ _ _ (by omega) (by decide) (by omega) (by omega)
  have a18 : Ans Try.prog 18 [byV (frmR (qst m f q) [1])] (.tup [pkA (qst m f q) [1], .int .i64 0]) := by
    have := ans18 (frmR (qst m f q) [1]) (fr_lt _ _ _ _ _ (.inl rfl)) (fr_len _ _ _ _ _)
    rwa [show prsA (frmR (qst m f q) [1]) = _ from prs_arp m 281474976710655 f q 1 (.inl rfl) hm (by decide) hf hq] at this
  have a19 : Ans Try.prog 19 [pkA (qst m f q) [1]] (.tup [.bool true, .int .u64 (m : Int), .int .u32 (f : Int), .int .u32 (q : Int), .bool true]) := by
    have := ans19 (qst m f q) [1] hu
    rwa [show rA (qst m f q) [1] = _ from rA_aH m 281474976710655 f q 1 (.inl rfl) hm (by decide) hf hq] at this
  unfold lay gtB
  simp -implicitDefEqProofs only [sims.1, fx.1, keeps.1, tick_on, calleeK, extractV, oneV, faddrK, nonnil, b_shr, b_shl, fieldK, Nat.reduceAdd, Nat.reduceMul, Nat.reduceSub, Nat.reduceEqDiff, Nat.reduceLT, Nat.reduceLeDiff, Nat.reduceBEq, Nat.reduceBNe, reduceIte, Int.reduceEq, Int.reduceLT, Int.reduceLE, Int.reduceNe, Int.reduceToNat, pe24, spA]
  refine w_noisy ?_
  simp -implicitDefEqProofs only [sims.1, fx.1, keeps.1, tick_on, calleeK, extractV, oneV, faddrK, nonnil, b_shr, b_shl, fieldK, Nat.reduceAdd, Nat.reduceMul, Nat.reduceSub, Nat.reduceEqDiff, Nat.reduceLT, Nat.reduceLeDiff, Nat.reduceBEq, Nat.reduceBNe, reduceIte, Int.reduceEq, Int.reduceLT, Int.reduceLE, Int.reduceNe, Int.reduceToNat, pk]
  iterate 12
    first
    | (refine orderP_of (by kernel_rfl) ?_
       simp -implicitDefEqProofs only [sims.1, fx.1, keeps.1, tick_on, calleeK, extractV, oneV, faddrK, nonnil, b_shr, b_shl, fieldK, Nat.reduceAdd, Nat.reduceMul, Nat.reduceSub, Nat.reduceEqDiff, Nat.reduceLT, Nat.reduceLeDiff, Nat.reduceBEq, Nat.reduceBNe, reduceIte, Int.reduceEq, Int.reduceLT, Int.reduceLE, Int.reduceNe, Int.reduceToNat, pk, pn, lk, hfv, sp])
    | skip
  refine callD_ans a18 en18 (by simp only [nfs, nf_by, Bool.and_self]) (by simp only [nf, nfs, nf_pkA, Bool.and_self]) ?_
  have hst : storeK 12 [.var 71 [.int .u64 n, .int .i64 a, .int .i64 t, .mp 1, .mp 2, .mp 3], .map (gtM gs) bs clk, S, hsB hs, .var 30 (spC s p), .var 76 [.bool true, .bool d], .var 60 [.int .u64 0, .int .u64 0, .int .u64 0, .int .u64 0, .int .u64 0, .int .u64 0, .int .u64 0, .int .u64 0, .int .u64 0, .int .u64 0, .int .u64 0, .nils]] (.ptr 6 0) (pkA (qst m f q) [1]) = some [.var 71 [.int .u64 n, .int .i64 a, .int .i64 t, .mp 1, .mp 2, .mp 3], .map (gtM gs) bs clk, S, hsB hs, .var 30 (spC s p), .var 76 [.bool true, .bool d], .var 60 (pkC (qst m f q) [1])] := rfl
  have pp : partK true 12 (pkC (qst m f q) [1]) 0 = some (pkA (qst m f q) [1]) := rfl
  simp -implicitDefEqProofs only [sims.1, fx.1, keeps.1, tick_on, calleeK, extractV, oneV, faddrK, nonnil, b_shr, b_shl, fieldK, Nat.reduceAdd, Nat.reduceMul, Nat.reduceSub, Nat.reduceEqDiff, Nat.reduceLT, Nat.reduceLeDiff, Nat.reduceBEq, Nat.reduceBNe, reduceIte, Int.reduceEq, Int.reduceLT, Int.reduceLE, Int.reduceNe, Int.reduceToNat, hst, pp]
  refine callD_ans a19 en19 (by simp only [nfs, nf_pkA, Bool.and_self]) rfl ?_
  have e0 : decide ((0 : Int) = 0) = true := rfl
  have hput := fun (x y z : B) (r : Mem) => put_hs (f := f) (v := m) (hs := hs) x y z r
  have b96 : buildV Try.prog 96 [(0, .int .u64 (m : Int))] = some (.agg [.int .u64 (m : Int)]) := by kernel_rfl
  by_cases hf0 : f = 0
  · have d0 : decide ((f : Int) = 0) = true := by simp; omega
    have eH : hsQ hs f m = hs := by simp [hsQ, hf0]
    simp -implicitDefEqProofs only [sims.1, fx.1, keeps.1, tick_on, calleeK, extractV, oneV, faddrK, nonnil, b_shr, b_shl, fieldK, Nat.reduceAdd, Nat.reduceMul, Nat.reduceSub, Nat.reduceEqDiff, Nat.reduceLT, Nat.reduceLeDiff, Nat.reduceBEq, Nat.reduceBNe, reduceIte, Int.reduceEq, Int.reduceLT, Int.reduceLE, Int.reduceNe, Int.reduceToNat, e0, d0]
    have hlk : lookupV Try.prog 69 [.var 71 [.int .u64 n, .int .i64 a, .int .i64 t, .mp 1, .mp 2, .mp 3], .map (gtM gs) bs clk, S, hsB hs, .var 30 (spC s p), .var 76 [.bool true, .bool d], .var 60 (pkC (qst m f q) [1])] (.mp 3) (.int .u32 (q : Int)) true = _ := look_hs (q := q) (hs := hs) rfl
    have hs3 : ∀ x : Int, storeK 1 [.var 71 [.int .u64 n, .int .i64 a, .int .i64 t, .mp 1, .mp 2, .mp 3], .map (gtM gs) bs clk, S, hsB hs, .var 30 (spC s p), .var 76 [.bool true, .bool d], .var 60 (pkC (qst m f q) [1]), .var 96 [.int .u64 0]] (.ptr 7 0) (.agg [.int .u64 x]) = some [.var 71 [.int .u64 n, .int .i64 a, .int .i64 t, .mp 1, .mp 2, .mp 3], .map (gtM gs) bs clk, S, hsB hs, .var 30 (spC s p), .var 76 [.bool true, .bool d], .var 60 (pkC (qst m f q) [1]), .var 96 [.int .u64 x]] := fun _ => rfl
    rw [eH] at hmac ⊢
    cases e : hsF q (hs) 0 with
    | none =>
      have ea : answ m f q (hs) = .tup [.nils, .bool false] := by simp only [answ, e]
      simp -implicitDefEqProofs only [sims.1, fx.1, keeps.1, tick_on, calleeK, extractV, oneV, faddrK, nonnil, b_shr, b_shl, fieldK, Nat.reduceAdd, Nat.reduceMul, Nat.reduceSub, Nat.reduceEqDiff, Nat.reduceLT, Nat.reduceLeDiff, Nat.reduceBEq, Nat.reduceBNe, reduceIte, Int.reduceEq, Int.reduceLT, Int.reduceLE, Int.reduceNe, Int.reduceToNat, hlk, e, hs3]
      rw [ea]
      exact ⟨_, rfl⟩
    | some x =>
      obtain ⟨j, mac⟩ := x
      have ea : answ m f q (hs) = .tup [byV (ansL mac (qst m f q) [1]), .bool (decide (ansE mac (qst m f q) [1] = 0))] := by simp only [answ, e]
      have hmc : mac < 18446744073709551616 := hmac _ (List.mem_of_getElem? (hsF_at e).2)
      simp -implicitDefEqProofs only [sims.1, fx.1, keeps.1, tick_on, calleeK, extractV, oneV, faddrK, nonnil, b_shr, b_shl, fieldK, Nat.reduceAdd, Nat.reduceMul, Nat.reduceSub, Nat.reduceEqDiff, Nat.reduceLT, Nat.reduceLeDiff, Nat.reduceBEq, Nat.reduceBNe, reduceIte, Int.reduceEq, Int.reduceLT, Int.reduceLE, Int.reduceNe, Int.reduceToNat, hlk, e, hs3, pp]
      refine callD_ans (ans34 mac (qst m f q) [1] hmc hu) en34 (by simp only [nfs, nf, nf_pkA, Bool.and_self]) (by simp only [nf, nfs, nf_by, Bool.and_self]) ?_
      simp -implicitDefEqProofs only [sims.1, fx.1, keeps.1, tick_on, calleeK, extractV, oneV, faddrK, nonnil, b_shr, b_shl, fieldK, Nat.reduceAdd, Nat.reduceMul, Nat.reduceSub, Nat.reduceEqDiff, Nat.reduceLT, Nat.reduceLeDiff, Nat.reduceBEq, Nat.reduceBNe, reduceIte, Int.reduceEq, Int.reduceLT, Int.reduceLE, Int.reduceNe, Int.reduceToNat]
      rw [ea]
      exact ⟨_, rfl⟩
  · have d0 : decide ((f : Int) = 0) = false := by simp; omega
    have eH : hsQ hs f m = hsP hs f m := by simp [hsQ, hf0]
    simp -implicitDefEqProofs only [sims.1, fx.1, keeps.1, tick_on, calleeK, extractV, oneV, faddrK, nonnil, b_shr, b_shl, fieldK, Nat.reduceAdd, Nat.reduceMul, Nat.reduceSub, Nat.reduceEqDiff, Nat.reduceLT, Nat.reduceLeDiff, Nat.reduceBEq, Nat.reduceBNe, reduceIte, Int.reduceEq, Int.reduceLT, Int.reduceLE, Int.reduceNe, Int.reduceToNat, e0, d0, hput, b96]
    have hlk : lookupV Try.prog 69 [.var 71 [.int .u64 n, .int .i64 a, .int .i64 t, .mp 1, .mp 2, .mp 3], .map (gtM gs) bs clk, S, hsB (hsP hs f m), .var 30 (spC s p), .var 76 [.bool true, .bool d], .var 60 (pkC (qst m f q) [1])] (.mp 3) (.int .u32 (q : Int)) true = _ := look_hs (q := q) (hs := (hsP hs f m)) rfl
    have hs3 : ∀ x : Int, storeK 1 [.var 71 [.int .u64 n, .int .i64 a, .int .i64 t, .mp 1, .mp 2, .mp 3], .map (gtM gs) bs clk, S, hsB (hsP hs f m), .var 30 (spC s p), .var 76 [.bool true, .bool d], .var 60 (pkC (qst m f q) [1]), .var 96 [.int .u64 0]] (.ptr 7 0) (.agg [.int .u64 x]) = some [.var 71 [.int .u64 n, .int .i64 a, .int .i64 t, .mp 1, .mp 2, .mp 3], .map (gtM gs) bs clk, S, hsB (hsP hs f m), .var 30 (spC s p), .var 76 [.bool true, .bool d], .var 60 (pkC (qst m f q) [1]), .var 96 [.int .u64 x]] := fun _ => rfl
    rw [eH] at hmac ⊢
    cases e : hsF q ((hsP hs f m)) 0 with
    | none =>
      have ea : answ m f q ((hsP hs f m)) = .tup [.nils, .bool false] := by simp only [answ, e]
      simp -implicitDefEqProofs only [sims.1, fx.1, keeps.1, tick_on, calleeK, extractV, oneV, faddrK, nonnil, b_shr, b_shl, fieldK, Nat.reduceAdd, Nat.reduceMul, Nat.reduceSub, Nat.reduceEqDiff, Nat.reduceLT, Nat.reduceLeDiff, Nat.reduceBEq, Nat.reduceBNe, reduceIte, Int.reduceEq, Int.reduceLT, Int.reduceLE, Int.reduceNe, Int.reduceToNat, hlk, e, hs3]
      rw [ea]
      exact ⟨_, rfl⟩
    | some x =>
      obtain ⟨j, mac⟩ := x
      have ea : answ m f q ((hsP hs f m)) = .tup [byV (ansL mac (qst m f q) [1]), .bool (decide (ansE mac (qst m f q) [1] = 0))] := by simp only [answ, e]
      have hmc : mac < 18446744073709551616 := hmac _ (List.mem_of_getElem? (hsF_at e).2)
      simp -implicitDefEqProofs only [sims.1, fx.1, keeps.1, tick_on, calleeK, extractV, oneV, faddrK, nonnil, b_shr, b_shl, fieldK, Nat.reduceAdd, Nat.reduceMul, Nat.reduceSub, Nat.reduceEqDiff, Nat.reduceLT, Nat.reduceLeDiff, Nat.reduceBEq, Nat.reduceBNe, reduceIte, Int.reduceEq, Int.reduceLT, Int.reduceLE, Int.reduceNe, Int.reduceToNat, hlk, e, hs3, pp]
      refine callD_ans (ans34 mac (qst m f q) [1] hmc hu) en34 (by simp only [nfs, nf, nf_pkA, Bool.and_self]) (by simp only [nf, nfs, nf_by, Bool.and_self]) ?_
      simp -implicitDefEqProofs only [sims.1, fx.1, keeps.1, tick_on, calleeK, extractV, oneV, faddrK, nonnil, b_shr, b_shl, fieldK, Nat.reduceAdd, Nat.reduceMul, Nat.reduceSub, Nat.reduceEqDiff, Nat.reduceLT, Nat.reduceLeDiff, Nat.reduceBEq, Nat.reduceBNe, reduceIte, Int.reduceEq, Int.reduceLT, Int.reduceLE, Int.reduceNe, Int.reduceToNat]
      rw [ea]
      exact ⟨_, rfl⟩
end Go.Proofs.Ytpmbhjmlghoogaa
