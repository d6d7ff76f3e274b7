/- The walk of the law on what was said last. No condition. -/
import Derived.Test.YtpmbhjmlghoogaaVg
import Derived.Test.YtpmbhjmlghoogaaTw
namespace Go.Proofs.Ytpmbhjmlghoogaa
open Go Ab
set_option linter.unusedSimpArgs false
set_option linter.unusedVariables false
set_option maxRecDepth 20000

theorem and48 (a : Nat) (h : a < 18446744073709551616) : bits .and .u64 (a : Int) 281474976710655 = ((a % 281474976710656 : Nat) : Int) := by
  have h1 : (BitVec.ofInt 64 (a : Int)).toNat = a := by
    rw [BitVec.ofInt_natCast, BitVec.toNat_ofNat]; exact Nat.mod_eq_of_lt (by omega)
  have h2 : (BitVec.ofInt 64 (281474976710655 : Int)).toNat = 2 ^ 48 - 1 := rfl
  show IntKind.u64.wrap ((BitVec.ofInt 64 (a : Int) &&& BitVec.ofInt 64 (281474976710655 : Int)).toNat : Int) = _
  rw [BitVec.toNat_and, h1, h2, Nat.and_two_pow_sub_one_eq_mod, IntKind.wrap_u64]
  omega
theorem u32_ex (z : Int) : ∃ X : Nat, X < 4294967296 ∧ IntKind.u32.wrap z = (X : Int) := ⟨(IntKind.u32.wrap z).toNat, by rw [IntKind.wrap_u32]; omega, by rw [IntKind.wrap_u32]; omega⟩
theorem xor32 (z : Int) : ∃ X : Nat, X < 4294967296 ∧ bits .xor .u32 z 1 = (X : Int) := u32_ex _
theorem next_ne (k : Nat) (h : k < 4294967296) (Y : Nat) (hY : IntKind.u32.wrap ((k : Int) + 1) = (Y : Int)) : Y ≠ k := by rw [IntKind.wrap_u32] at hY; omega
/-- Behind the last one that was said, the answer. -/
theorem last_ans {b c k : Nat} {hs : List (Nat × Nat)} (hb : b < 281474976710656) (hc : c < 281474976710656) (hk : k < 4294967296) : answ c 0 k (hsP hs k b) = .tup [byV (frmR (aH b c k 0) [2]), .bool true] := by
  obtain ⟨i, h⟩ := hsF_put k b hs
  have h1 : isA b (qst c 0 k) [1] = true := by
    unfold qst
    rw [isA_aH _ _ _ _ _ _ (.inl rfl) hc (by decide) (by decide) hk, show decide (b < 281474976710656) = true by simpa using hb]
    rfl
  simp only [answ, h, ansL, ansE, h1, cond_true]
  rfl
theorem hsF_no {k f v : Nat} (h : f ≠ k) : hsF k (hsQ [] f v) 0 = none := by
  unfold hsQ
  split
  · rfl
  · have : decide (k = f) = false := by simpa using fun e => h e.symm
    simp [hsP, hsF, this]
theorem hsQ0 (hs : List (Nat × Nat)) (v : Nat) : hsQ hs 0 v = hs := rfl
theorem hsQn (hs : List (Nat × Nat)) {k : Nat} (v : Nat) (h : k ≠ 0) : hsQ hs k v = hsP hs k v := by simp [hsQ, h]
set_option maxHeartbeats 8000000 in
theorem ans5z (a b c : Nat) (ha : a < 18446744073709551616) (hb : b < 18446744073709551616) (hc : c < 18446744073709551616) : Ans Try.prog 5 [.int .u64 (a : Int), .int .u64 (b : Int), .int .u64 (c : Int), .int .u32 0] (.bool true) := by
  refine Snd_of_W fol rfl rfl (by kernel_rfl) (by kernel_rfl) ?_
  have m1 := and48 a ha
  have m2 := and48 b hb
  have m3 := and48 c hc
  have hA : a % 281474976710656 < 281474976710656 := Nat.mod_lt _ (by decide)
  have hB : b % 281474976710656 < 281474976710656 := Nat.mod_lt _ (by decide)
  have hC : c % 281474976710656 < 281474976710656 := Nat.mod_lt _ (by decide)
  revert m1 m2 m3 hA hB hC
  generalize a % 281474976710656 = a'
  generalize b % 281474976710656 = b'
  generalize c % 281474976710656 = c'
  intro m1 m2 m3 hA hB hC
  have s7 : Snd Try.prog 7 [.int .u64 1, .int .i64 1] [] fun r => r = .ret (.ptr 3 0) [.map [] [] 0, .map [] [] 0, .map [] [] 0, .var 71 [.int .u64 1, .int .i64 1, .int .i64 0, .mp 0, .mp 1, .mp 2]] := snd7 1 1
  have bs12 : ∀ m, bsliceV Try.prog 28 2 [(0, .int .u16 1), (1, .int .u16 2)] m = some (.sl 1 m.length 0 2, m ++ [rowU [1, 2]]) := fun m => by kernel_rfl
  have bs3 : ∀ m, bsliceV Try.prog 28 1 [(0, .int .u16 3)] m = some (.sl 1 m.length 0 1, m ++ [rowU [3]]) := fun m => by kernel_rfl
  have b11 : buildV Try.prog 30 [(0, .int .u16 1), (1, .int .u16 1)] = some (spA 1 1) := b30 1 1
  have b12 : buildV Try.prog 30 [(0, .int .u16 1), (1, .int .u16 2)] = some (spA 1 2) := b30 1 2
  have b13 : buildV Try.prog 30 [(0, .int .u16 1), (1, .int .u16 3)] = some (spA 1 3) := b30 1 3
  have st11 : ∀ (w x y z u v : B), storeK 2 [w, x, y, z, u, v, .var 30 (cl .u16 2 fun _ => 0)] (.ptr 6 0) (spA 1 1) = some [w, x, y, z, u, v, .var 30 (spC 1 1)] := fun _ _ _ _ _ _ => rfl
  have pk11 : partK true 2 (spC 1 1) 0 = some (spA 1 1) := rfl
  have hgs : GtOk gsN := by unfold GtOk; decide
  have d0 : decide ((0 : Int) = 0) = true := rfl
  obtain ⟨Y, hY1, hY⟩ := u32_ex ((1 : Int) + 1)
  obtain ⟨X, hX1, hX⟩ := xor32 (1 : Int)
  have hK : 1 < 4294967296 := by omega
  have hK0 : 1 ≠ 0 := by omega
  have hYK : Y ≠ 1 := next_ne 1 hK Y hY
  have dY : decide ((Y : Int) = (1 : Int)) = false := by simp; omega
  have hM0 : ∀ x ∈ hsQ [] Y c', x.2 < 18446744073709551616 := mem_hsQ (fun _ h => by simp at h) (by omega)
  have hM1 : ∀ x ∈ hsQ (hsQ [] Y c') 1 a', x.2 < 18446744073709551616 := mem_hsQ hM0 (by omega)
  have hM2 : ∀ x ∈ hsQ (hsQ (hsQ [] Y c') 1 a') 1 b', x.2 < 18446744073709551616 := mem_hsQ hM1 (by omega)
  have hM3 : ∀ x ∈ hsQ (hsQ (hsQ (hsQ [] Y c') 1 a') 1 b') 0 c', x.2 < 18446744073709551616 := hM2
  have a1 : Snd Try.prog 16 [.ptr 0 0, spA 1 1, byV (frmR (qst c' Y 1) [1])] (lay 1 1 0 (gtR gsN) (.map [] [] 0) (hsB [])) fun r => r = .ret (.tup [.nils, .bool false]) (lay 1 1 0 (gtR gsN) (.map [] [] 0) (hsB (hsQ [] Y c'))) := by
    have := snd16e (n := 1) (a := 1) (t := 0) (gs := gsN) (bs := List.range gsN.length) (clk := gsN.length) (i := 0) (d := false) (S := .map [] [] 0) (hs := []) (s := 1) (p := 1) (m := c') (f := Y) (q := 1) (by decide) (by decide) hgs rfl rfl hC hY1 hK hM0
    rwa [show answ c' Y 1 (hsQ [] Y c') = .tup [.nils, .bool false] by simp only [answ, hsF_no hYK]] at this
  have a2 := snd16e (n := 1) (a := 1) (t := 0) (gs := gsN) (bs := List.range gsN.length) (clk := gsN.length) (i := 0) (d := false) (S := .map [] [] 0) (hs := hsQ [] Y c') (s := 1) (p := 1) (m := a') (f := 1) (q := X) (by decide) (by decide) hgs rfl rfl hA hK hX1 hM1
  have a3 := snd16n (n := 1) (a := 1) (t := 0) (gs := gsN) (bs := List.range gsN.length) (clk := gsN.length) (i := 2) (d := false) (S := .map [] [] 0) (hs := hsQ (hsQ [] Y c') 1 a') (s := 1) (p := 3) (m := c') (f := 1) (q := X) (by decide) (by decide) hgs rfl rfl hC hK hX1
  have a4 := snd16e (n := 1) (a := 1) (t := 0) (gs := gsN) (bs := List.range gsN.length) (clk := gsN.length) (i := 1) (d := false) (S := .map [] [] 0) (hs := hsQ (hsQ [] Y c') 1 a') (s := 1) (p := 2) (m := b') (f := 1) (q := X) (by decide) (by decide) hgs rfl rfl hB hK hX1 hM2
  have a5 := snd16e (n := 1) (a := 1) (t := 0) (gs := gsN) (bs := List.range gsN.length) (clk := gsN.length) (i := 0) (d := false) (S := .map [] [] 0) (hs := hsQ (hsQ (hsQ [] Y c') 1 a') 1 b') (s := 1) (p := 1) (m := c') (f := 0) (q := 1) (by decide) (by decide) hgs rfl rfl hC (by decide) hK hM3
  rw [hsQ0, hsQn _ b' hK0, last_ans hB hC hK] at a5
  rw [hsQn _ b' hK0] at a4
  simp -implicitDefEqProofs only [sims.1, fx.1, keeps.1, tick_on, calleeK, extractV, oneV, faddrK, nonnil, b_shr, b_shl, fieldK, Nat.reduceAdd, Nat.reduceMul, Nat.reduceSub, Nat.reduceEqDiff, Nat.reduceLT, Nat.reduceLeDiff, Nat.reduceBEq, Nat.reduceBNe, reduceIte, Int.reduceEq, Int.reduceLT, Int.reduceLE, Int.reduceNe, Int.reduceToNat, d0, m1, m2, m3]
  refine callD_all s7 en7 ?_
  simp -implicitDefEqProofs only [sims.1, fx.1, keeps.1, tick_on, calleeK, extractV, oneV, faddrK, nonnil, b_shr, b_shl, fieldK, Nat.reduceAdd, Nat.reduceMul, Nat.reduceSub, Nat.reduceEqDiff, Nat.reduceLT, Nat.reduceLeDiff, Nat.reduceBEq, Nat.reduceBNe, reduceIte, Int.reduceEq, Int.reduceLT, Int.reduceLE, Int.reduceNe, Int.reduceToNat, pe24, bs12, bs3]
  refine callD_part [3, 0, 1, 2, 4, 5] (jnN 1 1) en8 (by kernel_rfl) (by kernel_rfl) (by kernel_rfl) rfl (by kernel_rfl) (m' := lax 1 1 0 (gtR gsN) (.map [] [] 0) (hsB []) [rowU [1, 2], rowU [3]]) (by kernel_rfl) ?_
  unfold lax
  simp -implicitDefEqProofs only [sims.1, fx.1, keeps.1, tick_on, calleeK, extractV, oneV, faddrK, nonnil, b_shr, b_shl, fieldK, Nat.reduceAdd, Nat.reduceMul, Nat.reduceSub, Nat.reduceEqDiff, Nat.reduceLT, Nat.reduceLeDiff, Nat.reduceBEq, Nat.reduceBNe, reduceIte, Int.reduceEq, Int.reduceLT, Int.reduceLE, Int.reduceNe, Int.reduceToNat, b11, st11]
  refine w_noisy ?_
  simp -implicitDefEqProofs only [sims.1, fx.1, keeps.1, tick_on, calleeK, extractV, oneV, faddrK, nonnil, b_shr, b_shl, fieldK, Nat.reduceAdd, Nat.reduceMul, Nat.reduceSub, Nat.reduceEqDiff, Nat.reduceLT, Nat.reduceLeDiff, Nat.reduceBEq, Nat.reduceBNe, reduceIte, Int.reduceEq, Int.reduceLT, Int.reduceLE, Int.reduceNe, Int.reduceToNat, pk11, hY]
  iterate 6
    first
    | (refine orderP_of (by kernel_rfl) ?_
       simp -implicitDefEqProofs only [sims.1, fx.1, keeps.1, tick_on, calleeK, extractV, oneV, faddrK, nonnil, b_shr, b_shl, fieldK, Nat.reduceAdd, Nat.reduceMul, Nat.reduceSub, Nat.reduceEqDiff, Nat.reduceLT, Nat.reduceLeDiff, Nat.reduceBEq, Nat.reduceBNe, reduceIte, Int.reduceEq, Int.reduceLT, Int.reduceLE, Int.reduceNe, Int.reduceToNat, pk11, hY])
    | skip
  refine callE_ans (ask_ans c' Y 1 hC hY1 hK) en17 rfl (nf_by _) ?_
  simp -implicitDefEqProofs only [sims.1, fx.1, keeps.1, tick_on, calleeK, extractV, oneV, faddrK, nonnil, b_shr, b_shl, fieldK, Nat.reduceAdd, Nat.reduceMul, Nat.reduceSub, Nat.reduceEqDiff, Nat.reduceLT, Nat.reduceLeDiff, Nat.reduceBEq, Nat.reduceBNe, reduceIte, Int.reduceEq, Int.reduceLT, Int.reduceLE, Int.reduceNe, Int.reduceToNat, pk11]
  refine callE_laxC (vs := [.ptr 3 0, spA 1 1, byV (frmR (qst c' Y 1) [1])]) (n := 1) (a := 1) (t := 0) (t' := 0) (g := gtR gsN) (S := .map [] [] 0) (H := hsB []) (g' := gtR gsN) (S' := .map [] [] 0) (H' := hsB (hsQ [] Y c')) (ex := [rowU [1, 2], rowU [3], .var 30 (spC 1 1)]) (v := .tup [.nils, .bool false]) a1 en16 (nfB_gt _ _ _) rfl (nfB_hs _) (nfB_gt _ _ _) rfl (nfB_hs _) (roots_lax (nfB_gt _ _ _) rfl (nfB_hs _) rfl) (by simp only [inDs, inD, nf_inD _ _ (nf_by _)]; rfl) (by simp only [rens, ren, ren_nf _ _ (nf_by _)]; rfl) rfl ?_
  simp -implicitDefEqProofs only [sims.1, fx.1, keeps.1, tick_on, calleeK, extractV, oneV, faddrK, nonnil, b_shr, b_shl, fieldK, Nat.reduceAdd, Nat.reduceMul, Nat.reduceSub, Nat.reduceEqDiff, Nat.reduceLT, Nat.reduceLeDiff, Nat.reduceBEq, Nat.reduceBNe, reduceIte, Int.reduceEq, Int.reduceLT, Int.reduceLE, Int.reduceNe, Int.reduceToNat, pk11, hY, dY]
  iterate 6
    first
    | (refine orderP_of (by kernel_rfl) ?_
       simp -implicitDefEqProofs only [sims.1, fx.1, keeps.1, tick_on, calleeK, extractV, oneV, faddrK, nonnil, b_shr, b_shl, fieldK, Nat.reduceAdd, Nat.reduceMul, Nat.reduceSub, Nat.reduceEqDiff, Nat.reduceLT, Nat.reduceLeDiff, Nat.reduceBEq, Nat.reduceBNe, reduceIte, Int.reduceEq, Int.reduceLT, Int.reduceLE, Int.reduceNe, Int.reduceToNat, pk11, hY, hX, dY])
    | skip
  refine w_noisy ?_
  simp -implicitDefEqProofs only [sims.1, fx.1, keeps.1, tick_on, calleeK, extractV, oneV, faddrK, nonnil, b_shr, b_shl, fieldK, Nat.reduceAdd, Nat.reduceMul, Nat.reduceSub, Nat.reduceEqDiff, Nat.reduceLT, Nat.reduceLeDiff, Nat.reduceBEq, Nat.reduceBNe, reduceIte, Int.reduceEq, Int.reduceLT, Int.reduceLE, Int.reduceNe, Int.reduceToNat, pk11, hX]
  iterate 6
    first
    | (refine orderP_of (by kernel_rfl) ?_
       simp -implicitDefEqProofs only [sims.1, fx.1, keeps.1, tick_on, calleeK, extractV, oneV, faddrK, nonnil, b_shr, b_shl, fieldK, Nat.reduceAdd, Nat.reduceMul, Nat.reduceSub, Nat.reduceEqDiff, Nat.reduceLT, Nat.reduceLeDiff, Nat.reduceBEq, Nat.reduceBNe, reduceIte, Int.reduceEq, Int.reduceLT, Int.reduceLE, Int.reduceNe, Int.reduceToNat, pk11, hY, hX])
    | skip
  refine callE_ans (ask_ans a' 1 X hA hK hX1) en17 rfl (nf_by _) ?_
  simp -implicitDefEqProofs only [sims.1, fx.1, keeps.1, tick_on, calleeK, extractV, oneV, faddrK, nonnil, b_shr, b_shl, fieldK, Nat.reduceAdd, Nat.reduceMul, Nat.reduceSub, Nat.reduceEqDiff, Nat.reduceLT, Nat.reduceLeDiff, Nat.reduceBEq, Nat.reduceBNe, reduceIte, Int.reduceEq, Int.reduceLT, Int.reduceLE, Int.reduceNe, Int.reduceToNat, pk11]
  iterate 6
    first
    | (refine orderP_of (by kernel_rfl) ?_
       simp -implicitDefEqProofs only [sims.1, fx.1, keeps.1, tick_on, calleeK, extractV, oneV, faddrK, nonnil, b_shr, b_shl, fieldK, Nat.reduceAdd, Nat.reduceMul, Nat.reduceSub, Nat.reduceEqDiff, Nat.reduceLT, Nat.reduceLeDiff, Nat.reduceBEq, Nat.reduceBNe, reduceIte, Int.reduceEq, Int.reduceLT, Int.reduceLE, Int.reduceNe, Int.reduceToNat, pk11, hY, hX])
    | skip
  refine callE_laxC (vs := [.ptr 3 0, spA 1 1, byV (frmR (qst a' 1 X) [1])]) (n := 1) (a := 1) (t := 0) (t' := 0) (g := gtR gsN) (S := .map [] [] 0) (H := hsB (hsQ [] Y c')) (g' := gtR gsN) (S' := .map [] [] 0) (H' := hsB (hsQ (hsQ [] Y c') 1 a')) (ex := [rowU [1, 2], rowU [3], .var 30 (spC 1 1)])  a2 en16 (nfB_gt _ _ _) rfl (nfB_hs _) (nfB_gt _ _ _) rfl (nfB_hs _) (roots_lax (nfB_gt _ _ _) rfl (nfB_hs _) rfl) (by simp only [inDs, inD, nf_inD _ _ (nf_by _)]; rfl) (by simp only [rens, ren, ren_nf _ _ (nf_by _)]; rfl) (nf_answ _ _ _ _) ?_
  unfold lax
  simp -implicitDefEqProofs only [sims.1, fx.1, keeps.1, tick_on, calleeK, extractV, oneV, faddrK, nonnil, b_shr, b_shl, fieldK, Nat.reduceAdd, Nat.reduceMul, Nat.reduceSub, Nat.reduceEqDiff, Nat.reduceLT, Nat.reduceLeDiff, Nat.reduceBEq, Nat.reduceBNe, reduceIte, Int.reduceEq, Int.reduceLT, Int.reduceLE, Int.reduceNe, Int.reduceToNat, pk11, hX, b13]
  iterate 6
    first
    | (refine orderP_of (by kernel_rfl) ?_
       simp -implicitDefEqProofs only [sims.1, fx.1, keeps.1, tick_on, calleeK, extractV, oneV, faddrK, nonnil, b_shr, b_shl, fieldK, Nat.reduceAdd, Nat.reduceMul, Nat.reduceSub, Nat.reduceEqDiff, Nat.reduceLT, Nat.reduceLeDiff, Nat.reduceBEq, Nat.reduceBNe, reduceIte, Int.reduceEq, Int.reduceLT, Int.reduceLE, Int.reduceNe, Int.reduceToNat, pk11, hY, hX, b13])
    | skip
  refine callD_ans (ask_ans c' 1 X hC hK hX1) en17 rfl (nf_by _) ?_
  simp -implicitDefEqProofs only [sims.1, fx.1, keeps.1, tick_on, calleeK, extractV, oneV, faddrK, nonnil, b_shr, b_shl, fieldK, Nat.reduceAdd, Nat.reduceMul, Nat.reduceSub, Nat.reduceEqDiff, Nat.reduceLT, Nat.reduceLeDiff, Nat.reduceBEq, Nat.reduceBNe, reduceIte, Int.reduceEq, Int.reduceLT, Int.reduceLE, Int.reduceNe, Int.reduceToNat]
  refine callD_laxC (vs := [.ptr 3 0, spA 1 3, byV (frmR (qst c' 1 X) [1])]) (n := 1) (a := 1) (t := 0) (t' := 0) (g := gtR gsN) (S := .map [] [] 0) (H := hsB (hsQ (hsQ [] Y c') 1 a')) (g' := gtR gsN) (S' := .map [] [] 0) (H' := hsB (hsQ (hsQ [] Y c') 1 a')) (ex := [rowU [1, 2], rowU [3], .var 30 (spC 1 1)])  a3 en16 (nfB_gt _ _ _) rfl (nfB_hs _) (nfB_gt _ _ _) rfl (nfB_hs _) (by simp only [inDs, inD, nf_inD _ _ (nf_by _)]; rfl) (by simp only [rens, ren, ren_nf _ _ (nf_by _)]; rfl) rfl ?_
  unfold lax
  simp -implicitDefEqProofs only [sims.1, fx.1, keeps.1, tick_on, calleeK, extractV, oneV, faddrK, nonnil, b_shr, b_shl, fieldK, Nat.reduceAdd, Nat.reduceMul, Nat.reduceSub, Nat.reduceEqDiff, Nat.reduceLT, Nat.reduceLeDiff, Nat.reduceBEq, Nat.reduceBNe, reduceIte, Int.reduceEq, Int.reduceLT, Int.reduceLE, Int.reduceNe, Int.reduceToNat, hX, b12]
  refine callD_ans (ask_ans b' 1 X hB hK hX1) en17 rfl (nf_by _) ?_
  simp -implicitDefEqProofs only [sims.1, fx.1, keeps.1, tick_on, calleeK, extractV, oneV, faddrK, nonnil, b_shr, b_shl, fieldK, Nat.reduceAdd, Nat.reduceMul, Nat.reduceSub, Nat.reduceEqDiff, Nat.reduceLT, Nat.reduceLeDiff, Nat.reduceBEq, Nat.reduceBNe, reduceIte, Int.reduceEq, Int.reduceLT, Int.reduceLE, Int.reduceNe, Int.reduceToNat]
  refine callD_laxC (vs := [.ptr 3 0, spA 1 2, byV (frmR (qst b' 1 X) [1])]) (n := 1) (a := 1) (t := 0) (t' := 0) (g := gtR gsN) (S := .map [] [] 0) (H := hsB (hsQ (hsQ [] Y c') 1 a')) (g' := gtR gsN) (S' := .map [] [] 0) (H' := hsB (hsP (hsQ (hsQ [] Y c') 1 a') 1 b')) (ex := [rowU [1, 2], rowU [3], .var 30 (spC 1 1)])  a4 en16 (nfB_gt _ _ _) rfl (nfB_hs _) (nfB_gt _ _ _) rfl (nfB_hs _) (by simp only [inDs, inD, nf_inD _ _ (nf_by _)]; rfl) (by simp only [rens, ren, ren_nf _ _ (nf_by _)]; rfl) (nf_answ _ _ _ _) ?_
  unfold lax
  simp -implicitDefEqProofs only [sims.1, fx.1, keeps.1, tick_on, calleeK, extractV, oneV, faddrK, nonnil, b_shr, b_shl, fieldK, Nat.reduceAdd, Nat.reduceMul, Nat.reduceSub, Nat.reduceEqDiff, Nat.reduceLT, Nat.reduceLeDiff, Nat.reduceBEq, Nat.reduceBNe, reduceIte, Int.reduceEq, Int.reduceLT, Int.reduceLE, Int.reduceNe, Int.reduceToNat]
  refine w_noisy ?_
  simp -implicitDefEqProofs only [sims.1, fx.1, keeps.1, tick_on, calleeK, extractV, oneV, faddrK, nonnil, b_shr, b_shl, fieldK, Nat.reduceAdd, Nat.reduceMul, Nat.reduceSub, Nat.reduceEqDiff, Nat.reduceLT, Nat.reduceLeDiff, Nat.reduceBEq, Nat.reduceBNe, reduceIte, Int.reduceEq, Int.reduceLT, Int.reduceLE, Int.reduceNe, Int.reduceToNat, pk11]
  iterate 6
    first
    | (refine orderP_of (by kernel_rfl) ?_
       simp -implicitDefEqProofs only [sims.1, fx.1, keeps.1, tick_on, calleeK, extractV, oneV, faddrK, nonnil, b_shr, b_shl, fieldK, Nat.reduceAdd, Nat.reduceMul, Nat.reduceSub, Nat.reduceEqDiff, Nat.reduceLT, Nat.reduceLeDiff, Nat.reduceBEq, Nat.reduceBNe, reduceIte, Int.reduceEq, Int.reduceLT, Int.reduceLE, Int.reduceNe, Int.reduceToNat, pk11])
    | skip
  refine callE_ans (ask_ans c' 0 1 hC (by decide) hK) en17 rfl (nf_by _) ?_
  simp -implicitDefEqProofs only [sims.1, fx.1, keeps.1, tick_on, calleeK, extractV, oneV, faddrK, nonnil, b_shr, b_shl, fieldK, Nat.reduceAdd, Nat.reduceMul, Nat.reduceSub, Nat.reduceEqDiff, Nat.reduceLT, Nat.reduceLeDiff, Nat.reduceBEq, Nat.reduceBNe, reduceIte, Int.reduceEq, Int.reduceLT, Int.reduceLE, Int.reduceNe, Int.reduceToNat, pk11]
  iterate 6
    first
    | (refine orderP_of (by kernel_rfl) ?_
       simp -implicitDefEqProofs only [sims.1, fx.1, keeps.1, tick_on, calleeK, extractV, oneV, faddrK, nonnil, b_shr, b_shl, fieldK, Nat.reduceAdd, Nat.reduceMul, Nat.reduceSub, Nat.reduceEqDiff, Nat.reduceLT, Nat.reduceLeDiff, Nat.reduceBEq, Nat.reduceBNe, reduceIte, Int.reduceEq, Int.reduceLT, Int.reduceLE, Int.reduceNe, Int.reduceToNat, pk11])
    | skip
  refine callE_laxC (vs := [.ptr 3 0, spA 1 1, byV (frmR (qst c' 0 1) [1])]) (n := 1) (a := 1) (t := 0) (t' := 0) (g := gtR gsN) (S := .map [] [] 0) (H := hsB (hsP (hsQ (hsQ [] Y c') 1 a') 1 b')) (g' := gtR gsN) (S' := .map [] [] 0) (H' := hsB (hsP (hsQ (hsQ [] Y c') 1 a') 1 b')) (ex := [rowU [1, 2], rowU [3], .var 30 (spC 1 1)])  a5 en16 (nfB_gt _ _ _) rfl (nfB_hs _) (nfB_gt _ _ _) rfl (nfB_hs _) (roots_lax (nfB_gt _ _ _) rfl (nfB_hs _) rfl) (by simp only [inDs, inD, nf_inD _ _ (nf_by _)]; rfl) (by simp only [rens, ren, ren_nf _ _ (nf_by _)]; rfl) (by simp only [nf, nfs, nf_by, Bool.and_self]) ?_
  unfold lax
  simp -implicitDefEqProofs only [sims.1, fx.1, keeps.1, tick_on, calleeK, extractV, oneV, faddrK, nonnil, b_shr, b_shl, fieldK, Nat.reduceAdd, Nat.reduceMul, Nat.reduceSub, Nat.reduceEqDiff, Nat.reduceLT, Nat.reduceLeDiff, Nat.reduceBEq, Nat.reduceBNe, reduceIte, Int.reduceEq, Int.reduceLT, Int.reduceLE, Int.reduceNe, Int.reduceToNat]
  iterate 6
    first
    | (refine orderP_of (by kernel_rfl) ?_
       simp -implicitDefEqProofs only [sims.1, fx.1, keeps.1, tick_on, calleeK, extractV, oneV, faddrK, nonnil, b_shr, b_shl, fieldK, Nat.reduceAdd, Nat.reduceMul, Nat.reduceSub, Nat.reduceEqDiff, Nat.reduceLT, Nat.reduceLeDiff, Nat.reduceBEq, Nat.reduceBNe, reduceIte, Int.reduceEq, Int.reduceLT, Int.reduceLE, Int.reduceNe, Int.reduceToNat])
    | skip
  have p18 : Ans Try.prog 18 [byV (frmR (aH b' c' 1 0) [2])] (.tup [pkA (aH b' c' 1 0) [2], .int .i64 0]) := by
    have := ans18 (frmR (aH b' c' 1 0) [2]) (fr_lt _ _ _ _ _ (.inr rfl)) (fr_len _ _ _ _ _)
    rwa [prs_arp b' c' 1 0 2 (.inr rfl) hB hC hK (by decide)] at this
  have p19 : Ans Try.prog 19 [pkA (aH b' c' 1 0) [2]] (.tup [.bool false, .int .u64 (b' : Int), .int .u32 (1 : Int), .int .u32 0, .bool true]) := by
    have := ans19 (aH b' c' 1 0) [2] (aH_u64 _ _ _ _ (by omega) (by omega) (by omega) (by decide))
    rwa [rA_aH b' c' 1 0 2 (.inr rfl) hB hC hK (by decide)] at this
  refine callD_ans p18 en18 (by simp only [nfs, nf_by, Bool.and_self]) (by simp only [nf, nfs, nf_pkA, Bool.and_self]) ?_
  have stp : ∀ (s t u v w x y : B), storeK 12 [s, t, u, v, w, x, y, .var 60 ([.int .u64 0, .int .u64 0, .int .u64 0, .int .u64 0, .int .u64 0, .int .u64 0, .int .u64 0, .int .u64 0, .int .u64 0, .int .u64 0, .int .u64 0, .nils])] (.ptr 7 0) (pkA (aH b' c' 1 0) [2]) = some [s, t, u, v, w, x, y, .var 60 (pkC (aH b' c' 1 0) [2])] := fun _ _ _ _ _ _ _ => rfl
  have ppk : partK true 12 (pkC (aH b' c' 1 0) [2]) 0 = some (pkA (aH b' c' 1 0) [2]) := rfl
  simp -implicitDefEqProofs only [sims.1, fx.1, keeps.1, tick_on, calleeK, extractV, oneV, faddrK, nonnil, b_shr, b_shl, fieldK, Nat.reduceAdd, Nat.reduceMul, Nat.reduceSub, Nat.reduceEqDiff, Nat.reduceLT, Nat.reduceLeDiff, Nat.reduceBEq, Nat.reduceBNe, reduceIte, Int.reduceEq, Int.reduceLT, Int.reduceLE, Int.reduceNe, Int.reduceToNat, stp, ppk]
  refine callD_ans p19 en19 (by simp only [nfs, nf_pkA, Bool.and_self]) rfl ?_
  have e0 : decide ((0 : Int) = 0) = true := rfl
  have eb : decide ((b' : Int) = (b' : Int)) = true := by simp
  have ek : decide ((1 : Int) = (1 : Int)) = true := by simp
  simp -implicitDefEqProofs only [sims.1, fx.1, keeps.1, tick_on, calleeK, extractV, oneV, faddrK, nonnil, b_shr, b_shl, fieldK, Nat.reduceAdd, Nat.reduceMul, Nat.reduceSub, Nat.reduceEqDiff, Nat.reduceLT, Nat.reduceLeDiff, Nat.reduceBEq, Nat.reduceBNe, reduceIte, Int.reduceEq, Int.reduceLT, Int.reduceLE, Int.reduceNe, Int.reduceToNat, e0, eb, ek]
  refine callD_ans ans13 en13 rfl rfl ?_
  simp -implicitDefEqProofs only [sims.1, fx.1, keeps.1, tick_on, calleeK, extractV, oneV, faddrK, nonnil, b_shr, b_shl, fieldK, Nat.reduceAdd, Nat.reduceMul, Nat.reduceSub, Nat.reduceEqDiff, Nat.reduceLT, Nat.reduceLeDiff, Nat.reduceBEq, Nat.reduceBNe, reduceIte, Int.reduceEq, Int.reduceLT, Int.reduceLE, Int.reduceNe, Int.reduceToNat]
  exact ans_ret rfl
set_option maxHeartbeats 8000000 in
theorem ans5n (a b c k : Nat) (ha : a < 18446744073709551616) (hb : b < 18446744073709551616) (hc : c < 18446744073709551616) (hk : k < 4294967296) (hk0 : k ≠ 0) : Ans Try.prog 5 [.int .u64 (a : Int), .int .u64 (b : Int), .int .u64 (c : Int), .int .u32 (k : Int)] (.bool true) := by
  refine Snd_of_W fol rfl rfl (by kernel_rfl) (by kernel_rfl) ?_
  have m1 := and48 a ha
  have m2 := and48 b hb
  have m3 := and48 c hc
  have hA : a % 281474976710656 < 281474976710656 := Nat.mod_lt _ (by decide)
  have hB : b % 281474976710656 < 281474976710656 := Nat.mod_lt _ (by decide)
  have hC : c % 281474976710656 < 281474976710656 := Nat.mod_lt _ (by decide)
  revert m1 m2 m3 hA hB hC
  generalize a % 281474976710656 = a'
  generalize b % 281474976710656 = b'
  generalize c % 281474976710656 = c'
  intro m1 m2 m3 hA hB hC
  have s7 : Snd Try.prog 7 [.int .u64 1, .int .i64 1] [] fun r => r = .ret (.ptr 3 0) [.map [] [] 0, .map [] [] 0, .map [] [] 0, .var 71 [.int .u64 1, .int .i64 1, .int .i64 0, .mp 0, .mp 1, .mp 2]] := snd7 1 1
  have bs12 : ∀ m, bsliceV Try.prog 28 2 [(0, .int .u16 1), (1, .int .u16 2)] m = some (.sl 1 m.length 0 2, m ++ [rowU [1, 2]]) := fun m => by kernel_rfl
  have bs3 : ∀ m, bsliceV Try.prog 28 1 [(0, .int .u16 3)] m = some (.sl 1 m.length 0 1, m ++ [rowU [3]]) := fun m => by kernel_rfl
  have b11 : buildV Try.prog 30 [(0, .int .u16 1), (1, .int .u16 1)] = some (spA 1 1) := b30 1 1
  have b12 : buildV Try.prog 30 [(0, .int .u16 1), (1, .int .u16 2)] = some (spA 1 2) := b30 1 2
  have b13 : buildV Try.prog 30 [(0, .int .u16 1), (1, .int .u16 3)] = some (spA 1 3) := b30 1 3
  have st11 : ∀ (w x y z u v : B), storeK 2 [w, x, y, z, u, v, .var 30 (cl .u16 2 fun _ => 0)] (.ptr 6 0) (spA 1 1) = some [w, x, y, z, u, v, .var 30 (spC 1 1)] := fun _ _ _ _ _ _ => rfl
  have pk11 : partK true 2 (spC 1 1) 0 = some (spA 1 1) := rfl
  have hgs : GtOk gsN := by unfold GtOk; decide
  have d0 : decide ((k : Int) = 0) = false := by simp; omega
  obtain ⟨Y, hY1, hY⟩ := u32_ex ((k : Int) + 1)
  obtain ⟨X, hX1, hX⟩ := xor32 (k : Int)
  have hK : k < 4294967296 := by omega
  have hK0 : k ≠ 0 := by omega
  have hYK : Y ≠ k := next_ne k hK Y hY
  have dY : decide ((Y : Int) = (k : Int)) = false := by simp; omega
  have hM0 : ∀ x ∈ hsQ [] Y c', x.2 < 18446744073709551616 := mem_hsQ (fun _ h => by simp at h) (by omega)
  have hM1 : ∀ x ∈ hsQ (hsQ [] Y c') k a', x.2 < 18446744073709551616 := mem_hsQ hM0 (by omega)
  have hM2 : ∀ x ∈ hsQ (hsQ (hsQ [] Y c') k a') k b', x.2 < 18446744073709551616 := mem_hsQ hM1 (by omega)
  have hM3 : ∀ x ∈ hsQ (hsQ (hsQ (hsQ [] Y c') k a') k b') 0 c', x.2 < 18446744073709551616 := hM2
  have a1 : Snd Try.prog 16 [.ptr 0 0, spA 1 1, byV (frmR (qst c' Y k) [1])] (lay 1 1 0 (gtR gsN) (.map [] [] 0) (hsB [])) fun r => r = .ret (.tup [.nils, .bool false]) (lay 1 1 0 (gtR gsN) (.map [] [] 0) (hsB (hsQ [] Y c'))) := by
    have := snd16e (n := 1) (a := 1) (t := 0) (gs := gsN) (bs := List.range gsN.length) (clk := gsN.length) (i := 0) (d := false) (S := .map [] [] 0) (hs := []) (s := 1) (p := 1) (m := c') (f := Y) (q := k) (by decide) (by decide) hgs rfl rfl hC hY1 hK hM0
    rwa [show answ c' Y k (hsQ [] Y c') = .tup [.nils, .bool false] by simp only [answ, hsF_no hYK]] at this
  have a2 := snd16e (n := 1) (a := 1) (t := 0) (gs := gsN) (bs := List.range gsN.length) (clk := gsN.length) (i := 0) (d := false) (S := .map [] [] 0) (hs := hsQ [] Y c') (s := 1) (p := 1) (m := a') (f := k) (q := X) (by decide) (by decide) hgs rfl rfl hA hK hX1 hM1
  have a3 := snd16n (n := 1) (a := 1) (t := 0) (gs := gsN) (bs := List.range gsN.length) (clk := gsN.length) (i := 2) (d := false) (S := .map [] [] 0) (hs := hsQ (hsQ [] Y c') k a') (s := 1) (p := 3) (m := c') (f := k) (q := X) (by decide) (by decide) hgs rfl rfl hC hK hX1
  have a4 := snd16e (n := 1) (a := 1) (t := 0) (gs := gsN) (bs := List.range gsN.length) (clk := gsN.length) (i := 1) (d := false) (S := .map [] [] 0) (hs := hsQ (hsQ [] Y c') k a') (s := 1) (p := 2) (m := b') (f := k) (q := X) (by decide) (by decide) hgs rfl rfl hB hK hX1 hM2
  have a5 := snd16e (n := 1) (a := 1) (t := 0) (gs := gsN) (bs := List.range gsN.length) (clk := gsN.length) (i := 0) (d := false) (S := .map [] [] 0) (hs := hsQ (hsQ (hsQ [] Y c') k a') k b') (s := 1) (p := 1) (m := c') (f := 0) (q := k) (by decide) (by decide) hgs rfl rfl hC (by decide) hK hM3
  rw [hsQ0, hsQn _ b' hK0, last_ans hB hC hK] at a5
  rw [hsQn _ b' hK0] at a4
  simp -implicitDefEqProofs only [sims.1, fx.1, keeps.1, tick_on, calleeK, extractV, oneV, faddrK, nonnil, b_shr, b_shl, fieldK, Nat.reduceAdd, Nat.reduceMul, Nat.reduceSub, Nat.reduceEqDiff, Nat.reduceLT, Nat.reduceLeDiff, Nat.reduceBEq, Nat.reduceBNe, reduceIte, Int.reduceEq, Int.reduceLT, Int.reduceLE, Int.reduceNe, Int.reduceToNat, d0, m1, m2, m3]
  refine callD_all s7 en7 ?_
  simp -implicitDefEqProofs only [sims.1, fx.1, keeps.1, tick_on, calleeK, extractV, oneV, faddrK, nonnil, b_shr, b_shl, fieldK, Nat.reduceAdd, Nat.reduceMul, Nat.reduceSub, Nat.reduceEqDiff, Nat.reduceLT, Nat.reduceLeDiff, Nat.reduceBEq, Nat.reduceBNe, reduceIte, Int.reduceEq, Int.reduceLT, Int.reduceLE, Int.reduceNe, Int.reduceToNat, pe24, bs12, bs3]
  refine callD_part [3, 0, 1, 2, 4, 5] (jnN 1 1) en8 (by kernel_rfl) (by kernel_rfl) (by kernel_rfl) rfl (by kernel_rfl) (m' := lax 1 1 0 (gtR gsN) (.map [] [] 0) (hsB []) [rowU [1, 2], rowU [3]]) (by kernel_rfl) ?_
  unfold lax
  simp -implicitDefEqProofs only [sims.1, fx.1, keeps.1, tick_on, calleeK, extractV, oneV, faddrK, nonnil, b_shr, b_shl, fieldK, Nat.reduceAdd, Nat.reduceMul, Nat.reduceSub, Nat.reduceEqDiff, Nat.reduceLT, Nat.reduceLeDiff, Nat.reduceBEq, Nat.reduceBNe, reduceIte, Int.reduceEq, Int.reduceLT, Int.reduceLE, Int.reduceNe, Int.reduceToNat, b11, st11]
  refine w_noisy ?_
  simp -implicitDefEqProofs only [sims.1, fx.1, keeps.1, tick_on, calleeK, extractV, oneV, faddrK, nonnil, b_shr, b_shl, fieldK, Nat.reduceAdd, Nat.reduceMul, Nat.reduceSub, Nat.reduceEqDiff, Nat.reduceLT, Nat.reduceLeDiff, Nat.reduceBEq, Nat.reduceBNe, reduceIte, Int.reduceEq, Int.reduceLT, Int.reduceLE, Int.reduceNe, Int.reduceToNat, pk11, hY]
  iterate 6
    first
    | (refine orderP_of (by kernel_rfl) ?_
       simp -implicitDefEqProofs only [sims.1, fx.1, keeps.1, tick_on, calleeK, extractV, oneV, faddrK, nonnil, b_shr, b_shl, fieldK, Nat.reduceAdd, Nat.reduceMul, Nat.reduceSub, Nat.reduceEqDiff, Nat.reduceLT, Nat.reduceLeDiff, Nat.reduceBEq, Nat.reduceBNe, reduceIte, Int.reduceEq, Int.reduceLT, Int.reduceLE, Int.reduceNe, Int.reduceToNat, pk11, hY])
    | skip
  refine callE_ans (ask_ans c' Y k hC hY1 hK) en17 rfl (nf_by _) ?_
  simp -implicitDefEqProofs only [sims.1, fx.1, keeps.1, tick_on, calleeK, extractV, oneV, faddrK, nonnil, b_shr, b_shl, fieldK, Nat.reduceAdd, Nat.reduceMul, Nat.reduceSub, Nat.reduceEqDiff, Nat.reduceLT, Nat.reduceLeDiff, Nat.reduceBEq, Nat.reduceBNe, reduceIte, Int.reduceEq, Int.reduceLT, Int.reduceLE, Int.reduceNe, Int.reduceToNat, pk11]
  refine callE_laxC (vs := [.ptr 3 0, spA 1 1, byV (frmR (qst c' Y k) [1])]) (n := 1) (a := 1) (t := 0) (t' := 0) (g := gtR gsN) (S := .map [] [] 0) (H := hsB []) (g' := gtR gsN) (S' := .map [] [] 0) (H' := hsB (hsQ [] Y c')) (ex := [rowU [1, 2], rowU [3], .var 30 (spC 1 1)]) (v := .tup [.nils, .bool false]) a1 en16 (nfB_gt _ _ _) rfl (nfB_hs _) (nfB_gt _ _ _) rfl (nfB_hs _) (roots_lax (nfB_gt _ _ _) rfl (nfB_hs _) rfl) (by simp only [inDs, inD, nf_inD _ _ (nf_by _)]; rfl) (by simp only [rens, ren, ren_nf _ _ (nf_by _)]; rfl) rfl ?_
  simp -implicitDefEqProofs only [sims.1, fx.1, keeps.1, tick_on, calleeK, extractV, oneV, faddrK, nonnil, b_shr, b_shl, fieldK, Nat.reduceAdd, Nat.reduceMul, Nat.reduceSub, Nat.reduceEqDiff, Nat.reduceLT, Nat.reduceLeDiff, Nat.reduceBEq, Nat.reduceBNe, reduceIte, Int.reduceEq, Int.reduceLT, Int.reduceLE, Int.reduceNe, Int.reduceToNat, pk11, hY, dY]
  iterate 6
    first
    | (refine orderP_of (by kernel_rfl) ?_
       simp -implicitDefEqProofs only [sims.1, fx.1, keeps.1, tick_on, calleeK, extractV, oneV, faddrK, nonnil, b_shr, b_shl, fieldK, Nat.reduceAdd, Nat.reduceMul, Nat.reduceSub, Nat.reduceEqDiff, Nat.reduceLT, Nat.reduceLeDiff, Nat.reduceBEq, Nat.reduceBNe, reduceIte, Int.reduceEq, Int.reduceLT, Int.reduceLE, Int.reduceNe, Int.reduceToNat, pk11, hY, hX, dY])
    | skip
  refine w_noisy ?_
  simp -implicitDefEqProofs only [sims.1, fx.1, keeps.1, tick_on, calleeK, extractV, oneV, faddrK, nonnil, b_shr, b_shl, fieldK, Nat.reduceAdd, Nat.reduceMul, Nat.reduceSub, Nat.reduceEqDiff, Nat.reduceLT, Nat.reduceLeDiff, Nat.reduceBEq, Nat.reduceBNe, reduceIte, Int.reduceEq, Int.reduceLT, Int.reduceLE, Int.reduceNe, Int.reduceToNat, pk11, hX]
  iterate 6
    first
    | (refine orderP_of (by kernel_rfl) ?_
       simp -implicitDefEqProofs only [sims.1, fx.1, keeps.1, tick_on, calleeK, extractV, oneV, faddrK, nonnil, b_shr, b_shl, fieldK, Nat.reduceAdd, Nat.reduceMul, Nat.reduceSub, Nat.reduceEqDiff, Nat.reduceLT, Nat.reduceLeDiff, Nat.reduceBEq, Nat.reduceBNe, reduceIte, Int.reduceEq, Int.reduceLT, Int.reduceLE, Int.reduceNe, Int.reduceToNat, pk11, hY, hX])
    | skip
  refine callE_ans (ask_ans a' k X hA hK hX1) en17 rfl (nf_by _) ?_
  simp -implicitDefEqProofs only [sims.1, fx.1, keeps.1, tick_on, calleeK, extractV, oneV, faddrK, nonnil, b_shr, b_shl, fieldK, Nat.reduceAdd, Nat.reduceMul, Nat.reduceSub, Nat.reduceEqDiff, Nat.reduceLT, Nat.reduceLeDiff, Nat.reduceBEq, Nat.reduceBNe, reduceIte, Int.reduceEq, Int.reduceLT, Int.reduceLE, Int.reduceNe, Int.reduceToNat, pk11]
  iterate 6
    first
    | (refine orderP_of (by kernel_rfl) ?_
       simp -implicitDefEqProofs only [sims.1, fx.1, keeps.1, tick_on, calleeK, extractV, oneV, faddrK, nonnil, b_shr, b_shl, fieldK, Nat.reduceAdd, Nat.reduceMul, Nat.reduceSub, Nat.reduceEqDiff, Nat.reduceLT, Nat.reduceLeDiff, Nat.reduceBEq, Nat.reduceBNe, reduceIte, Int.reduceEq, Int.reduceLT, Int.reduceLE, Int.reduceNe, Int.reduceToNat, pk11, hY, hX])
    | skip
  refine callE_laxC (vs := [.ptr 3 0, spA 1 1, byV (frmR (qst a' k X) [1])]) (n := 1) (a := 1) (t := 0) (t' := 0) (g := gtR gsN) (S := .map [] [] 0) (H := hsB (hsQ [] Y c')) (g' := gtR gsN) (S' := .map [] [] 0) (H' := hsB (hsQ (hsQ [] Y c') k a')) (ex := [rowU [1, 2], rowU [3], .var 30 (spC 1 1)])  a2 en16 (nfB_gt _ _ _) rfl (nfB_hs _) (nfB_gt _ _ _) rfl (nfB_hs _) (roots_lax (nfB_gt _ _ _) rfl (nfB_hs _) rfl) (by simp only [inDs, inD, nf_inD _ _ (nf_by _)]; rfl) (by simp only [rens, ren, ren_nf _ _ (nf_by _)]; rfl) (nf_answ _ _ _ _) ?_
  unfold lax
  simp -implicitDefEqProofs only [sims.1, fx.1, keeps.1, tick_on, calleeK, extractV, oneV, faddrK, nonnil, b_shr, b_shl, fieldK, Nat.reduceAdd, Nat.reduceMul, Nat.reduceSub, Nat.reduceEqDiff, Nat.reduceLT, Nat.reduceLeDiff, Nat.reduceBEq, Nat.reduceBNe, reduceIte, Int.reduceEq, Int.reduceLT, Int.reduceLE, Int.reduceNe, Int.reduceToNat, pk11, hX, b13]
  iterate 6
    first
    | (refine orderP_of (by kernel_rfl) ?_
       simp -implicitDefEqProofs only [sims.1, fx.1, keeps.1, tick_on, calleeK, extractV, oneV, faddrK, nonnil, b_shr, b_shl, fieldK, Nat.reduceAdd, Nat.reduceMul, Nat.reduceSub, Nat.reduceEqDiff, Nat.reduceLT, Nat.reduceLeDiff, Nat.reduceBEq, Nat.reduceBNe, reduceIte, Int.reduceEq, Int.reduceLT, Int.reduceLE, Int.reduceNe, Int.reduceToNat, pk11, hY, hX, b13])
    | skip
  refine callD_ans (ask_ans c' k X hC hK hX1) en17 rfl (nf_by _) ?_
  simp -implicitDefEqProofs only [sims.1, fx.1, keeps.1, tick_on, calleeK, extractV, oneV, faddrK, nonnil, b_shr, b_shl, fieldK, Nat.reduceAdd, Nat.reduceMul, Nat.reduceSub, Nat.reduceEqDiff, Nat.reduceLT, Nat.reduceLeDiff, Nat.reduceBEq, Nat.reduceBNe, reduceIte, Int.reduceEq, Int.reduceLT, Int.reduceLE, Int.reduceNe, Int.reduceToNat]
  refine callD_laxC (vs := [.ptr 3 0, spA 1 3, byV (frmR (qst c' k X) [1])]) (n := 1) (a := 1) (t := 0) (t' := 0) (g := gtR gsN) (S := .map [] [] 0) (H := hsB (hsQ (hsQ [] Y c') k a')) (g' := gtR gsN) (S' := .map [] [] 0) (H' := hsB (hsQ (hsQ [] Y c') k a')) (ex := [rowU [1, 2], rowU [3], .var 30 (spC 1 1)])  a3 en16 (nfB_gt _ _ _) rfl (nfB_hs _) (nfB_gt _ _ _) rfl (nfB_hs _) (by simp only [inDs, inD, nf_inD _ _ (nf_by _)]; rfl) (by simp only [rens, ren, ren_nf _ _ (nf_by _)]; rfl) rfl ?_
  unfold lax
  simp -implicitDefEqProofs only [sims.1, fx.1, keeps.1, tick_on, calleeK, extractV, oneV, faddrK, nonnil, b_shr, b_shl, fieldK, Nat.reduceAdd, Nat.reduceMul, Nat.reduceSub, Nat.reduceEqDiff, Nat.reduceLT, Nat.reduceLeDiff, Nat.reduceBEq, Nat.reduceBNe, reduceIte, Int.reduceEq, Int.reduceLT, Int.reduceLE, Int.reduceNe, Int.reduceToNat, hX, b12]
  refine callD_ans (ask_ans b' k X hB hK hX1) en17 rfl (nf_by _) ?_
  simp -implicitDefEqProofs only [sims.1, fx.1, keeps.1, tick_on, calleeK, extractV, oneV, faddrK, nonnil, b_shr, b_shl, fieldK, Nat.reduceAdd, Nat.reduceMul, Nat.reduceSub, Nat.reduceEqDiff, Nat.reduceLT, Nat.reduceLeDiff, Nat.reduceBEq, Nat.reduceBNe, reduceIte, Int.reduceEq, Int.reduceLT, Int.reduceLE, Int.reduceNe, Int.reduceToNat]
  refine callD_laxC (vs := [.ptr 3 0, spA 1 2, byV (frmR (qst b' k X) [1])]) (n := 1) (a := 1) (t := 0) (t' := 0) (g := gtR gsN) (S := .map [] [] 0) (H := hsB (hsQ (hsQ [] Y c') k a')) (g' := gtR gsN) (S' := .map [] [] 0) (H' := hsB (hsP (hsQ (hsQ [] Y c') k a') k b')) (ex := [rowU [1, 2], rowU [3], .var 30 (spC 1 1)])  a4 en16 (nfB_gt _ _ _) rfl (nfB_hs _) (nfB_gt _ _ _) rfl (nfB_hs _) (by simp only [inDs, inD, nf_inD _ _ (nf_by _)]; rfl) (by simp only [rens, ren, ren_nf _ _ (nf_by _)]; rfl) (nf_answ _ _ _ _) ?_
  unfold lax
  simp -implicitDefEqProofs only [sims.1, fx.1, keeps.1, tick_on, calleeK, extractV, oneV, faddrK, nonnil, b_shr, b_shl, fieldK, Nat.reduceAdd, Nat.reduceMul, Nat.reduceSub, Nat.reduceEqDiff, Nat.reduceLT, Nat.reduceLeDiff, Nat.reduceBEq, Nat.reduceBNe, reduceIte, Int.reduceEq, Int.reduceLT, Int.reduceLE, Int.reduceNe, Int.reduceToNat]
  refine w_noisy ?_
  simp -implicitDefEqProofs only [sims.1, fx.1, keeps.1, tick_on, calleeK, extractV, oneV, faddrK, nonnil, b_shr, b_shl, fieldK, Nat.reduceAdd, Nat.reduceMul, Nat.reduceSub, Nat.reduceEqDiff, Nat.reduceLT, Nat.reduceLeDiff, Nat.reduceBEq, Nat.reduceBNe, reduceIte, Int.reduceEq, Int.reduceLT, Int.reduceLE, Int.reduceNe, Int.reduceToNat, pk11]
  iterate 6
    first
    | (refine orderP_of (by kernel_rfl) ?_
       simp -implicitDefEqProofs only [sims.1, fx.1, keeps.1, tick_on, calleeK, extractV, oneV, faddrK, nonnil, b_shr, b_shl, fieldK, Nat.reduceAdd, Nat.reduceMul, Nat.reduceSub, Nat.reduceEqDiff, Nat.reduceLT, Nat.reduceLeDiff, Nat.reduceBEq, Nat.reduceBNe, reduceIte, Int.reduceEq, Int.reduceLT, Int.reduceLE, Int.reduceNe, Int.reduceToNat, pk11])
    | skip
  refine callE_ans (ask_ans c' 0 k hC (by decide) hK) en17 rfl (nf_by _) ?_
  simp -implicitDefEqProofs only [sims.1, fx.1, keeps.1, tick_on, calleeK, extractV, oneV, faddrK, nonnil, b_shr, b_shl, fieldK, Nat.reduceAdd, Nat.reduceMul, Nat.reduceSub, Nat.reduceEqDiff, Nat.reduceLT, Nat.reduceLeDiff, Nat.reduceBEq, Nat.reduceBNe, reduceIte, Int.reduceEq, Int.reduceLT, Int.reduceLE, Int.reduceNe, Int.reduceToNat, pk11]
  iterate 6
    first
    | (refine orderP_of (by kernel_rfl) ?_
       simp -implicitDefEqProofs only [sims.1, fx.1, keeps.1, tick_on, calleeK, extractV, oneV, faddrK, nonnil, b_shr, b_shl, fieldK, Nat.reduceAdd, Nat.reduceMul, Nat.reduceSub, Nat.reduceEqDiff, Nat.reduceLT, Nat.reduceLeDiff, Nat.reduceBEq, Nat.reduceBNe, reduceIte, Int.reduceEq, Int.reduceLT, Int.reduceLE, Int.reduceNe, Int.reduceToNat, pk11])
    | skip
  refine callE_laxC (vs := [.ptr 3 0, spA 1 1, byV (frmR (qst c' 0 k) [1])]) (n := 1) (a := 1) (t := 0) (t' := 0) (g := gtR gsN) (S := .map [] [] 0) (H := hsB (hsP (hsQ (hsQ [] Y c') k a') k b')) (g' := gtR gsN) (S' := .map [] [] 0) (H' := hsB (hsP (hsQ (hsQ [] Y c') k a') k b')) (ex := [rowU [1, 2], rowU [3], .var 30 (spC 1 1)])  a5 en16 (nfB_gt _ _ _) rfl (nfB_hs _) (nfB_gt _ _ _) rfl (nfB_hs _) (roots_lax (nfB_gt _ _ _) rfl (nfB_hs _) rfl) (by simp only [inDs, inD, nf_inD _ _ (nf_by _)]; rfl) (by simp only [rens, ren, ren_nf _ _ (nf_by _)]; rfl) (by simp only [nf, nfs, nf_by, Bool.and_self]) ?_
  unfold lax
  simp -implicitDefEqProofs only [sims.1, fx.1, keeps.1, tick_on, calleeK, extractV, oneV, faddrK, nonnil, b_shr, b_shl, fieldK, Nat.reduceAdd, Nat.reduceMul, Nat.reduceSub, Nat.reduceEqDiff, Nat.reduceLT, Nat.reduceLeDiff, Nat.reduceBEq, Nat.reduceBNe, reduceIte, Int.reduceEq, Int.reduceLT, Int.reduceLE, Int.reduceNe, Int.reduceToNat]
  iterate 6
    first
    | (refine orderP_of (by kernel_rfl) ?_
       simp -implicitDefEqProofs only [sims.1, fx.1, keeps.1, tick_on, calleeK, extractV, oneV, faddrK, nonnil, b_shr, b_shl, fieldK, Nat.reduceAdd, Nat.reduceMul, Nat.reduceSub, Nat.reduceEqDiff, Nat.reduceLT, Nat.reduceLeDiff, Nat.reduceBEq, Nat.reduceBNe, reduceIte, Int.reduceEq, Int.reduceLT, Int.reduceLE, Int.reduceNe, Int.reduceToNat])
    | skip
  have p18 : Ans Try.prog 18 [byV (frmR (aH b' c' k 0) [2])] (.tup [pkA (aH b' c' k 0) [2], .int .i64 0]) := by
    have := ans18 (frmR (aH b' c' k 0) [2]) (fr_lt _ _ _ _ _ (.inr rfl)) (fr_len _ _ _ _ _)
    rwa [prs_arp b' c' k 0 2 (.inr rfl) hB hC hK (by decide)] at this
  have p19 : Ans Try.prog 19 [pkA (aH b' c' k 0) [2]] (.tup [.bool false, .int .u64 (b' : Int), .int .u32 (k : Int), .int .u32 0, .bool true]) := by
    have := ans19 (aH b' c' k 0) [2] (aH_u64 _ _ _ _ (by omega) (by omega) (by omega) (by decide))
    rwa [rA_aH b' c' k 0 2 (.inr rfl) hB hC hK (by decide)] at this
  refine callD_ans p18 en18 (by simp only [nfs, nf_by, Bool.and_self]) (by simp only [nf, nfs, nf_pkA, Bool.and_self]) ?_
  have stp : ∀ (s t u v w x y : B), storeK 12 [s, t, u, v, w, x, y, .var 60 ([.int .u64 0, .int .u64 0, .int .u64 0, .int .u64 0, .int .u64 0, .int .u64 0, .int .u64 0, .int .u64 0, .int .u64 0, .int .u64 0, .int .u64 0, .nils])] (.ptr 7 0) (pkA (aH b' c' k 0) [2]) = some [s, t, u, v, w, x, y, .var 60 (pkC (aH b' c' k 0) [2])] := fun _ _ _ _ _ _ _ => rfl
  have ppk : partK true 12 (pkC (aH b' c' k 0) [2]) 0 = some (pkA (aH b' c' k 0) [2]) := rfl
  simp -implicitDefEqProofs only [sims.1, fx.1, keeps.1, tick_on, calleeK, extractV, oneV, faddrK, nonnil, b_shr, b_shl, fieldK, Nat.reduceAdd, Nat.reduceMul, Nat.reduceSub, Nat.reduceEqDiff, Nat.reduceLT, Nat.reduceLeDiff, Nat.reduceBEq, Nat.reduceBNe, reduceIte, Int.reduceEq, Int.reduceLT, Int.reduceLE, Int.reduceNe, Int.reduceToNat, stp, ppk]
  refine callD_ans p19 en19 (by simp only [nfs, nf_pkA, Bool.and_self]) rfl ?_
  have e0 : decide ((0 : Int) = 0) = true := rfl
  have eb : decide ((b' : Int) = (b' : Int)) = true := by simp
  have ek : decide ((k : Int) = (k : Int)) = true := by simp
  simp -implicitDefEqProofs only [sims.1, fx.1, keeps.1, tick_on, calleeK, extractV, oneV, faddrK, nonnil, b_shr, b_shl, fieldK, Nat.reduceAdd, Nat.reduceMul, Nat.reduceSub, Nat.reduceEqDiff, Nat.reduceLT, Nat.reduceLeDiff, Nat.reduceBEq, Nat.reduceBNe, reduceIte, Int.reduceEq, Int.reduceLT, Int.reduceLE, Int.reduceNe, Int.reduceToNat, e0, eb, ek]
  refine callD_ans ans13 en13 rfl rfl ?_
  simp -implicitDefEqProofs only [sims.1, fx.1, keeps.1, tick_on, calleeK, extractV, oneV, faddrK, nonnil, b_shr, b_shl, fieldK, Nat.reduceAdd, Nat.reduceMul, Nat.reduceSub, Nat.reduceEqDiff, Nat.reduceLT, Nat.reduceLeDiff, Nat.reduceBEq, Nat.reduceBNe, reduceIte, Int.reduceEq, Int.reduceLT, Int.reduceLE, Int.reduceNe, Int.reduceToNat]
  exact ans_ret rfl
theorem u64_nat {z : Int} (h : (Lit.int .u64 z).wf = true) : ∃ n : Nat, n < 18446744073709551616 ∧ z = (n : Int) := by
  simp [Lit.wf, IntKind.min, IntKind.max, IntKind.bits, IntKind.signed] at h
  exact ⟨z.toNat, by omega, by omega⟩
theorem ans5r (a b c i : Int) (ha : (Lit.int .u64 a).wf = true) (hb : (Lit.int .u64 b).wf = true) (hc : (Lit.int .u64 c).wf = true) (hi : (Lit.int .u32 i).wf = true) : Ans Try.prog 5 [.int .u64 a, .int .u64 b, .int .u64 c, .int .u32 i] (.bool true) := by
  obtain ⟨a', ha', rfl⟩ := u64_nat ha
  obtain ⟨b', hb', rfl⟩ := u64_nat hb
  obtain ⟨c', hc', rfl⟩ := u64_nat hc
  have h2 : 0 ≤ i ∧ i ≤ 4294967295 := by
    simp [Lit.wf, IntKind.min, IntKind.max, IntKind.bits, IntKind.signed] at hi
    omega
  obtain ⟨k, rfl⟩ : ∃ k : Nat, i = (k : Int) := ⟨i.toNat, by omega⟩
  by_cases h0 : k = 0
  · subst h0
    exact ans5z a' b' c' ha' hb' hc'
  · exact ans5n a' b' c' k ha' hb' hc' (by omega) h0
end Go.Proofs.Ytpmbhjmlghoogaa
