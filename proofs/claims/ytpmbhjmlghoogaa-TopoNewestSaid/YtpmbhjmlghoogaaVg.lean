/- An answer names the address that was said last. No condition. -/
import Derived.Test.YtpmbhjmlghoogaaVf
namespace Go.Proofs.Ytpmbhjmlghoogaa
open Go Ab
set_option linter.unusedSimpArgs false
set_option linter.unusedVariables false
set_option maxRecDepth 20000

set_option maxHeartbeats 4000000 in
theorem snd16n {n a t : Int} {gs : List Gt} {bs : List Nat} {clk i : Nat} {S : B} {hs : List (Nat × Nat)} {s p m f q : Nat} {d : Bool} (hs1 : s < 65536) (hp : p < 65536) (hgs : GtOk gs) (hg : gtF s p gs 0 = some (i, false, d)) (hS : nfB S = true)
    (hm : m < 281474976710656) (hf : f < 4294967296) (hq : q < 4294967296) :
    Snd Try.prog 16 [.ptr 0 0, spA s p, byV (frmR (qst m f q) [1])] (lay n a t (gtB gs bs clk) S (hsB hs)) fun r => r = .ret (.tup [.nils, .bool false]) (lay n a t (gtB gs bs clk) S (hsB hs)) := by
  refine Snd_dropW rfl (lay_closed (nfB_gt _ _ _) hS (nfB_hs _)) rfl ?_
  refine Snd_of_W fol rfl rfl (by kernel_rfl) (by kernel_rfl) ?_
  have hfv := findV_gt hs1 hp (i := 0) hgs
  rw [hg] at hfv
  simp only [Option.map_some] at hfv
  have pk : partK true 2 (spC s p) 0 = some (.agg (spC s p)) := rfl
  have pn : nms (.agg (spC s p)) = [] := rfl
  have lk := fun m n => look_gt hs1 hp (m := m) (n := n)
  unfold spA at hfv lk
  have sp : ∀ x y : Bool, splice [V.bool false, V.bool false] 0 (cellsOfV (V.agg [.bool x, .bool y])) = [.bool x, .bool y] := fun _ _ => rfl
  have hu : U64h (qst m f q) := aH_u64 _ _ _ _ (by omega) (by decide) (by omega) (by omega)
  have a18 : Ans Try.prog 18 [byV (frmR (qst m f q) [1])] (.tup [pkA (qst m f q) [1], .int .i64 0]) := by
    have := ans18 (frmR (qst m f q) [1]) (fr_lt _ _ _ _ _ (.inl rfl)) (fr_len _ _ _ _ _)
    rwa [show prsA (frmR (qst m f q) [1]) = _ from prs_arp m 281474976710655 f q 1 (.inl rfl) hm (by decide) hf hq] at this
  have a19 : Ans Try.prog 19 [pkA (qst m f q) [1]] (.tup [.bool true, .int .u64 (m : Int), .int .u32 (f : Int), .int .u32 (q : Int), .bool true]) := by
    have := ans19 (qst m f q) [1] hu
    rwa [show rA (qst m f q) [1] = _ from rA_aH m 281474976710655 f q 1 (.inl rfl) hm (by decide) hf hq] at this
  unfold lay gtB
  simp -implicitDefEqProofs only [sims.1, fx.1, keeps.1, tick_on, calleeK, extractV, oneV, faddrK, nonnil, b_shr, b_shl, fieldK, Nat.reduceAdd, Nat.reduceMul, Nat.reduceSub, Nat.reduceEqDiff, Nat.reduceLT, Nat.reduceLeDiff, Nat.reduceBEq, Nat.reduceBNe, reduceIte, Int.reduceEq, Int.reduceLT, Int.reduceLE, Int.reduceNe, Int.reduceToNat, pe24, spA]
  refine w_noisy ?_
  simp -implicitDefEqProofs only [sims.1, fx.1, keeps.1, tick_on, calleeK, extractV, oneV, faddrK, nonnil, b_shr, b_shl, fieldK, Nat.reduceAdd, Nat.reduceMul, Nat.reduceSub, Nat.reduceEqDiff, Nat.reduceLT, Nat.reduceLeDiff, Nat.reduceBEq, Nat.reduceBNe, reduceIte, Int.reduceEq, Int.reduceLT, Int.reduceLE, Int.reduceNe, Int.reduceToNat, pk]
  iterate 12
    first
    | (refine orderP_of (by kernel_rfl) ?_
       simp -implicitDefEqProofs only [sims.1, fx.1, keeps.1, tick_on, calleeK, extractV, oneV, faddrK, nonnil, b_shr, b_shl, fieldK, Nat.reduceAdd, Nat.reduceMul, Nat.reduceSub, Nat.reduceEqDiff, Nat.reduceLT, Nat.reduceLeDiff, Nat.reduceBEq, Nat.reduceBNe, reduceIte, Int.reduceEq, Int.reduceLT, Int.reduceLE, Int.reduceNe, Int.reduceToNat, pk, pn, lk, hfv, sp])
    | skip
  refine callD_ans a18 en18 (by simp only [nfs, nf_by, Bool.and_self]) (by simp only [nf, nfs, nf_pkA, Bool.and_self]) ?_
  have hst : storeK 12 [.var 71 [.int .u64 n, .int .i64 a, .int .i64 t, .mp 1, .mp 2, .mp 3], .map (gtM gs) bs clk, S, hsB hs, .var 30 (spC s p), .var 76 [.bool false, .bool d], .var 60 [.int .u64 0, .int .u64 0, .int .u64 0, .int .u64 0, .int .u64 0, .int .u64 0, .int .u64 0, .int .u64 0, .int .u64 0, .int .u64 0, .int .u64 0, .nils]] (.ptr 6 0) (pkA (qst m f q) [1]) = some [.var 71 [.int .u64 n, .int .i64 a, .int .i64 t, .mp 1, .mp 2, .mp 3], .map (gtM gs) bs clk, S, hsB hs, .var 30 (spC s p), .var 76 [.bool false, .bool d], .var 60 (pkC (qst m f q) [1])] := rfl
  have pp : partK true 12 (pkC (qst m f q) [1]) 0 = some (pkA (qst m f q) [1]) := rfl
  simp -implicitDefEqProofs only [sims.1, fx.1, keeps.1, tick_on, calleeK, extractV, oneV, faddrK, nonnil, b_shr, b_shl, fieldK, Nat.reduceAdd, Nat.reduceMul, Nat.reduceSub, Nat.reduceEqDiff, Nat.reduceLT, Nat.reduceLeDiff, Nat.reduceBEq, Nat.reduceBNe, reduceIte, Int.reduceEq, Int.reduceLT, Int.reduceLE, Int.reduceNe, Int.reduceToNat, hst, pp]
  refine callD_ans a19 en19 (by simp only [nfs, nf_pkA, Bool.and_self]) rfl ?_
  simp -implicitDefEqProofs only [sims.1, fx.1, keeps.1, tick_on, calleeK, extractV, oneV, faddrK, nonnil, b_shr, b_shl, fieldK, Nat.reduceAdd, Nat.reduceMul, Nat.reduceSub, Nat.reduceEqDiff, Nat.reduceLT, Nat.reduceLeDiff, Nat.reduceBEq, Nat.reduceBNe, reduceIte, Int.reduceEq, Int.reduceLT, Int.reduceLE, Int.reduceNe, Int.reduceToNat]
  exact ⟨_, rfl⟩

theorem hsF_app {k v : Nat} : ∀ {hs : List (Nat × Nat)} {i : Nat}, hsF k hs i = none → hsF k (hs ++ [(k, v)]) i = some (i + hs.length, v)
  | [], i, _ => by simp [hsF]
  | x :: r, i, h => by
    simp only [hsF] at h
    by_cases hq : k = x.1
    · rw [show decide (k = x.1) = true by simpa using hq, cond_true] at h
      cases h
    · rw [show decide (k = x.1) = false by simpa using hq, cond_false] at h
      simp only [List.cons_append, hsF]
      rw [show decide (k = x.1) = false by simpa using hq, cond_false, hsF_app h]
      simp only [List.length_cons, Option.some.injEq, Prod.mk.injEq, and_true]
      omega
theorem hsF_set {k v w : Nat} : ∀ {hs : List (Nat × Nat)} {i j : Nat}, hsF k hs i = some (j, w) → hsF k (hs.set (j - i) (k, v)) i = some (j, v)
  | [], _, _, h => by cases h
  | x :: r, i, j, h => by
    simp only [hsF] at h
    by_cases hq : k = x.1
    · rw [show decide (k = x.1) = true by simpa using hq, cond_true] at h
      cases h
      rw [Nat.sub_self]
      simp [hsF]
    · rw [show decide (k = x.1) = false by simpa using hq, cond_false] at h
      obtain ⟨h1, h2⟩ := hsF_at h
      rw [show j - i = (j - (i + 1)) + 1 by omega]
      simp only [List.set_cons_succ, hsF]
      rw [show decide (k = x.1) = false by simpa using hq, cond_false, hsF_set h]
/-- What was said last is known. -/
theorem hsF_put (k v : Nat) (hs : List (Nat × Nat)) : ∃ i, hsF k (hsP hs k v) 0 = some (i, v) := by
  unfold hsP
  cases e : hsF k hs 0 with
  | none => exact ⟨_, hsF_app e⟩
  | some x => obtain ⟨i, w⟩ := x; exact ⟨i, hsF_set e⟩
theorem mem_hsP {k v : Nat} {hs : List (Nat × Nat)} {B : Nat} (h : ∀ x ∈ hs, x.2 < B) (hv : v < B) : ∀ x ∈ hsP hs k v, x.2 < B := by
  intro x hx
  unfold hsP at hx
  cases e : hsF k hs 0 with
  | none =>
    rw [e] at hx
    rcases List.mem_append.1 hx with hx | hx
    · exact h x hx
    · rw [List.mem_singleton.1 hx]; exact hv
  | some y =>
    rw [e] at hx
    rcases List.mem_or_eq_of_mem_set hx with hx | hx
    · exact h x hx
    · rw [hx]; exact hv
theorem mem_hsQ {k v : Nat} {hs : List (Nat × Nat)} {B : Nat} (h : ∀ x ∈ hs, x.2 < B) (hv : v < B) : ∀ x ∈ hsQ hs k v, x.2 < B := by
  unfold hsQ
  split
  · exact h
  · exact mem_hsP h hv
theorem ask_ans (s f t : Nat) (hs : s < 281474976710656) (hf : f < 4294967296) (ht : t < 4294967296) : Ans Try.prog 17 [.int .u64 (s : Int), .int .u32 (f : Int), .int .u32 (t : Int)] (byV (frmR (qst s f t) [1])) := by
  have := ans17 s f t (by omega) hf ht
  have e : askL s f t = frmR (qst s f t) [1] := by
    unfold askL
    rw [show decide (s < 281474976710656) = true by simpa using hs]
    rfl
  rwa [e] at this
theorem roots_lax {n a t : Int} {g S H : B} {ex : Mem} {r : List V} (hg : nfB g = true) (hS : nfB S = true) (hH : nfB H = true) (hr : nmss r = []) : rootsV (lax n a t g S H ex) (.ptr 3 0 :: r) = [3, 0, 1, 2] := by
  have e1 : nmsB (B.var 71 [.int .u64 n, .int .i64 a, .int .i64 t, .mp 0, .mp 1, .mp 2]) = [0, 1, 2] := rfl
  have step : ∀ k, reach (lax n a t g S H ex) (k + 4 + 1) [3] [] = [3, 0, 1, 2] := fun k => by
    have r1 : reach (lax n a t g S H ex) (k + 4 + 1) [3] [] = reach (lax n a t g S H ex) (k + 4) ([] ++ nmsB (B.var 71 [.int .u64 n, .int .i64 a, .int .i64 t, .mp 0, .mp 1, .mp 2])) [3] := rfl
    have r2 : reach (lax n a t g S H ex) (k + 3 + 1) [0, 1, 2] [3] = reach (lax n a t g S H ex) (k + 3) ([1, 2] ++ nmsB g) [3, 0] := rfl
    have r3 : reach (lax n a t g S H ex) (k + 2 + 1) [1, 2] [3, 0] = reach (lax n a t g S H ex) (k + 2) ([2] ++ nmsB S) [3, 0, 1] := rfl
    have r4 : reach (lax n a t g S H ex) (k + 1 + 1) [2] [3, 0, 1] = reach (lax n a t g S H ex) (k + 1) ([] ++ nmsB H) [3, 0, 1, 2] := rfl
    rw [r1, e1, List.nil_append, r2, nmsB_flat hg, List.append_nil, r3, nmsB_flat hS, List.append_nil, r4, nmsB_flat hH]
    rfl
  unfold rootsV
  simp only [nmss, nms, hr, List.append_nil]
  exact step 1995
theorem callE_laxC {f : FuncId} {vs vs1 : List V} {v : V} {n a t t' : Int} {g S H g' S' H' : B} {ex : Mem} {K0 : V → Prop} {K1 : V → Mem → List Nat → Prop} (h : Snd Try.prog f vs1 (lay n a t g S H) fun r => r = .ret v (lay n a t' g' S' H')) (he : enterable Try.prog f = true) (hg : nfB g = true) (hS : nfB S = true) (hH : nfB H = true) (hg' : nfB g' = true) (hS' : nfB S' = true) (hH' : nfB H' = true)
    (hroots : rootsV (lax n a t g S H ex) vs = [3, 0, 1, 2]) (hi : inDs (fun k => [3, 0, 1, 2].contains k) vs = true) (hr : rens (idx [3, 0, 1, 2]) vs = vs1) (hv : nf v = true) (hk : K1 v (lax n a t' g' S' H' ex) [3, 0, 1, 2]) : callE Try.prog f vs (lax n a t g S H ex) K0 K1 := by
  refine .inr ?_
  rw [hroots, hr, view_lax hg hS hH]
  have hall : (lay n a t' g' S' H').all (inDB fun _ => true) = true := by
    simp only [lay, List.all_cons, List.all_nil, nfB_inDB _ hg', nfB_inDB _ hS', nfB_inDB _ hH', Bool.and_true]
    rfl
  refine ⟨by unfold okCall; rw [hi, lax_closed hg hS hH]; rfl, he, v, _, h, ?_, rfl, ?_⟩
  · unfold okBack
    rw [nf_inD _ _ hv, hall]
    rfl
  · have hm : merge [3, 0, 1, 2] (lax n a t g S H ex) (lay n a t' g' S' H') = lax n a t' g' S' H' ex := by
      unfold merge lay
      simp only [List.length_cons, List.length_nil, List.take, List.drop, List.map_cons, List.map_nil, List.append_nil, nfB_renB _ hg', nfB_renB _ hS', nfB_renB _ hH']
      rfl
    rw [ren_nf _ _ hv, hm]
    exact hk
theorem callD_laxC {f : FuncId} {vs vs1 : List V} {v : V} {n a t t' : Int} {g S H g' S' H' : B} {ex : Mem} {K Kp : V → Mem → Prop} (h : Snd Try.prog f vs1 (lay n a t g S H) fun r => r = .ret v (lay n a t' g' S' H')) (he : enterable Try.prog f = true) (hg : nfB g = true) (hS : nfB S = true) (hH : nfB H = true) (hg' : nfB g' = true) (hS' : nfB S' = true) (hH' : nfB H' = true)
    (hi : inDs (fun k => [3, 0, 1, 2].contains k) vs = true) (hr : rens (idx [3, 0, 1, 2]) vs = vs1) (hv : nf v = true) (hk : K v (lax n a t' g' S' H' ex)) : callD Try.prog f vs (lax n a t g S H ex) K Kp := by
  refine callD_part [3, 0, 1, 2] h he ?_ hr (view_lax hg hS hH) hv ?_ ?_ hk
  · unfold okCall
    rw [hi, lax_closed hg hS hH]
    rfl
  · simp only [lay, List.all_cons, List.all_nil, nfB_inDB _ hg', nfB_inDB _ hS', nfB_inDB _ hH', Bool.and_true]
    rfl
  · unfold merge lay
    simp only [List.length_cons, List.length_nil, List.take, List.drop, List.map_cons, List.map_nil, List.append_nil, nfB_renB _ hg', nfB_renB _ hS', nfB_renB _ hH']
    rfl
def gsN : List Gt := [((1, 1), (true, false)), ((1, 2), (true, false)), ((1, 3), (false, false))]
theorem e5_ok : AllOk Try.prog [⟨20, [.int .u16 1, .sl 1 0 0 2, .sl 1 1 0 1, .int .i64 0, .int .i64 0], [rowU [1, 2], rowU [3]], [.ret (.tup [.unk, .int .i64 0]) [rowU [1, 2], rowU [3]]]⟩] :=
  ⟨(new_of (by kernel_rfl) (by kernel_rfl)).mono fun q h => by rw [h]; exact List.mem_singleton.2 rfl, trivial⟩
theorem jnN (n a : Int) : Snd Try.prog 8 [.ptr 0 0, .int .u16 1, .sl 1 4 0 2, .sl 1 5 0 1] (lay n a 0 (gtR []) (.map [] [] 0) (.map [] [] 0) ++ [rowU [1, 2], rowU [3]]) fun r => r = .ret (.tup []) (lay n a 0 (gtR gsN) (.map [] [] 0) (.map [] [] 0) ++ [rowU [1, 2], rowU [3]]) :=
  Snd_dropW rfl (lay_closed2 rfl rfl rfl rfl rfl) rfl (snd_runC 6 3000 e5_ok (by kernel_rfl))
end Go.Proofs.Ytpmbhjmlghoogaa
