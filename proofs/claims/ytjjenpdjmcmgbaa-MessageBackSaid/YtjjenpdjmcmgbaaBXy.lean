/- What is written is read as it was, and the law on it. No condition. What is written is read as it was, what is read is written as it was: the arguments. No condition. -/
import Derived.Test.YtjjenpdjmcmgbaaBXw
namespace Go.Proofs.Ytjjenpdjmcmgbaa
open Go Ab
set_option linter.unusedSimpArgs false
set_option linter.unusedVariables false
set_option maxRecDepth 20000
theorem only_all {x : Ms} (h : onlyM x = true) : ((x.dd = 0 ∧ zeroR x.r = true) ∨ x.ty = 5) ∧ (x.port = 0 ∨ (x.ty = 6 ∨ x.ty = 7 ∨ x.ty = 11 ∨ x.ty = 12)) ∧ (x.up = false ∨ x.ty = 12) ∧ ((x.sw = 0 ∧ x.ports = [] ∧ x.edge = []) ∨ x.ty = 4) ∧ (x.frame = [] ∨ (x.ty = 6 ∨ x.ty = 7)) ∧ (x.helds = [] ∨ x.ty = 11) ∧ (x.code = 0 ∨ x.ty = 13) := by
  simp only [onlyM, zs, inT, List.all_cons, List.all_nil, Bool.and_true, Bool.and_eq_true, Bool.or_eq_true, decide_eq_true_eq, List.mem_cons, List.not_mem_nil, or_false, Bool.not_eq_true'] at h
  obtain ⟨h1, h2, h3, h4, h5, h6, h7⟩ := h
  exact ⟨h1, h2, h3, h4.imp (fun h => ⟨h.1, List.eq_nil_of_length_eq_zero h.2.1, List.eq_nil_of_length_eq_zero h.2.2⟩) id, h5.imp List.eq_nil_of_length_eq_zero id, h6.imp List.eq_nil_of_length_eq_zero id, h7⟩
theorem zero_eq {r : Ru} (h : zeroR r = true) (hc : canR r) : r = ⟨0, w0, [], 0⟩ := by
  simp only [zeroR, Bool.and_eq_true, decide_eq_true_eq] at h
  obtain ⟨h1, h2, h3, h4⟩ := h
  have hw : r.w = w0 := by
    funext i
    rcases Nat.lt_or_ge i 22 with hi | hi
    · have := of_decide_eq_true h4 i hi
      show r.w i = 0
      simpa using this
    · exact hc i hi
  obtain ⟨a, w, l, ck⟩ := r
  simp only at h1 h2 h3 hw
  rw [h1, h2, hw, List.eq_nil_of_length_eq_zero h3]
def canM (x : Ms) : Prop := canR x.r ∧ ∀ h ∈ x.helds, canR h.r
theorem rdBody_enc {x : Ms} (hx : wfM x) (hR : rightM x = true) (hF : fits x = true) (hc : canM x) (t : List Nat) : rdBody x.ty x.id (body x ++ t) = some (x, t) := by
  have hl : (body x).length ≤ 8192 := by have : (body x).length + 8 ≤ 8192 := by simpa [fits] using hF
                                         omega
  have ho : onlyM x = true := by simp only [rightM, Bool.and_eq_true] at hR; exact hR.2.1
  obtain ⟨o1, o2, o3, o4, o5, o6, o7⟩ := only_all ho
  have z1 : x.ty ≠ 5 → x.dd = 0 ∧ x.r = ⟨0, w0, [], 0⟩ := fun h => by
    rcases o1 with g | g
    · exact ⟨g.1, zero_eq g.2 hc.1⟩
    · exact absurd g h
  by_cases h4 : x.ty = 4
  · have b4 := body4 h4
    rw [b4] at hl ⊢
    simp only [List.length_append] at hl
    obtain ⟨d0, r0⟩ := z1 (by omega)
    have p0 : x.port = 0 := o2.resolve_right (by omega)
    have u0 : x.up = false := o3.resolve_right (by omega)
    have f0 : x.frame = [] := o5.resolve_right (by omega)
    have e0' : x.helds = [] := o6.resolve_right (by omega)
    have k0 : x.code = 0 := o7.resolve_right (by omega)
    unfold rdBody
    rw [if_pos h4, List.append_assoc, rdN_enc hx.sw, Option.bind_some, List.append_assoc, rdP_enc hx.ports.2 (by omega), Option.bind_some, rdP_enc hx.edge.2 (by omega)]
    obtain ⟨ty, id, dd, r, port, up, sw, ports, edge, frame, helds, code⟩ := x
    simp only at h4 d0 r0 p0 u0 f0 e0' k0
    subst h4 d0 r0 p0 u0 f0 e0' k0
    rfl
  have s4 := o4.resolve_right h4
  by_cases h5 : x.ty = 5
  · have b5 := body5 h5
    rw [b5] at hl ⊢
    simp only [List.length_append] at hl
    have p0 : x.port = 0 := o2.resolve_right (by omega)
    have u0 : x.up = false := o3.resolve_right (by omega)
    have f0 : x.frame = [] := o5.resolve_right (by omega)
    have e0' : x.helds = [] := o6.resolve_right (by omega)
    have k0 : x.code = 0 := o7.resolve_right (by omega)
    obtain ⟨s0, q0, g0⟩ := s4
    have hf : fairR x.r = true := by
      have := right5 h5 ho
      rw [hR] at this
      simp only [Bool.true_eq, Bool.and_eq_true] at this
      exact this.2.2
    unfold rdBody
    rw [if_neg h4, if_pos h5, List.append_assoc, rdN_enc (i8N_lt x.dd), Option.bind_some, rdR_enc hx.r hf hc.1 (by omega)]
    simp only [Option.map_some, i8_back _ hx.dd.1 hx.dd.2]
    obtain ⟨ty, id, dd, r, port, up, sw, ports, edge, frame, helds, code⟩ := x
    simp only at h5 p0 u0 f0 e0' k0 s0 q0 g0
    subst h5 p0 u0 f0 e0' k0 s0 q0 g0
    rfl
  obtain ⟨d0, r0⟩ := z1 h5
  obtain ⟨s0, q0, g0⟩ := s4
  by_cases h6 : x.ty = 6 ∨ x.ty = 7
  · have b6 := body6 h6
    rw [b6] at hl ⊢
    simp only [List.length_append] at hl
    have u0 : x.up = false := o3.resolve_right (by omega)
    have e0' : x.helds = [] := o6.resolve_right (by omega)
    have k0 : x.code = 0 := o7.resolve_right (by omega)
    unfold rdBody
    rw [if_neg h4, if_neg h5, if_pos h6, List.append_assoc, rdN_enc hx.port, Option.bind_some, rdB_enc hx.frame.2 (by omega)]
    obtain ⟨ty, id, dd, r, port, up, sw, ports, edge, frame, helds, code⟩ := x
    simp only at d0 r0 u0 e0' k0 s0 q0 g0
    subst d0 r0 u0 e0' k0 s0 q0 g0
    rfl
  have f0 : x.frame = [] := o5.resolve_right h6
  by_cases h11 : x.ty = 11
  · have b11 := body11 h11
    rw [b11] at hl ⊢
    simp only [List.length_append] at hl
    have u0 : x.up = false := o3.resolve_right (by omega)
    have k0 : x.code = 0 := o7.resolve_right (by omega)
    have hf : ∀ h ∈ x.helds, fairR h.r = true := by
      have := right11 h11 ho
      rw [hR] at this
      simp only [Bool.true_eq, Bool.and_eq_true, List.all_eq_true] at this
      exact this.1
    unfold rdBody
    rw [if_neg h4, if_neg h5, if_neg h6, if_pos h11, List.append_assoc, rdN_enc hx.port, Option.bind_some, rdHs_enc hx.helds.2 hf hc.2 (by omega)]
    obtain ⟨ty, id, dd, r, port, up, sw, ports, edge, frame, helds, code⟩ := x
    simp only at h11 d0 r0 u0 f0 k0 s0 q0 g0
    subst h11 d0 r0 u0 f0 k0 s0 q0 g0
    rfl
  have e0' : x.helds = [] := o6.resolve_right h11
  by_cases h12 : x.ty = 12
  · rw [body12 h12]
    have k0 : x.code = 0 := o7.resolve_right (by omega)
    unfold rdBody
    rw [if_neg h4, if_neg h5, if_neg h6, if_neg h11, if_pos h12, List.append_assoc, rdN_enc hx.port, Option.bind_some, rdFl_enc]
    obtain ⟨ty, id, dd, r, port, up, sw, ports, edge, frame, helds, code⟩ := x
    simp only at h12 d0 r0 f0 k0 s0 q0 g0 e0'
    subst h12 d0 r0 f0 k0 s0 q0 g0 e0'
    rfl
  have p0 : x.port = 0 := o2.resolve_right (by omega)
  have u0 : x.up = false := o3.resolve_right h12
  by_cases h13 : x.ty = 13
  · rw [body13 h13]
    unfold rdBody
    rw [if_neg h4, if_neg h5, if_neg h6, if_neg h11, if_neg h12, if_pos h13, rdN_enc hx.code]
    obtain ⟨ty, id, dd, r, port, up, sw, ports, edge, frame, helds, code⟩ := x
    simp only at h13 d0 r0 f0 p0 u0 s0 q0 g0 e0'
    subst h13 d0 r0 f0 p0 u0 s0 q0 g0 e0'
    rfl
  · have k0 : x.code = 0 := o7.resolve_right h13
    rw [bodyN h4 h5 h6 h11 h12 h13, List.nil_append]
    unfold rdBody
    rw [if_neg h4, if_neg h5, if_neg h6, if_neg h11, if_neg h12, if_neg h13]
    obtain ⟨ty, id, dd, r, port, up, sw, ports, edge, frame, helds, code⟩ := x
    simp only at d0 r0 f0 p0 u0 s0 q0 g0 e0' k0
    subst d0 r0 f0 p0 u0 s0 q0 g0 e0' k0
    rfl
/-- What is written is read as it was. -/
theorem msg_enc {x : Ms} (hx : wfM x) (hk : chkM x = 0) (hc : canM x) : decE (whole x) = 0 ∧ decX (whole x) = x := by
  obtain ⟨hR, hF⟩ := right_if hk
  obtain ⟨ha, h8, _⟩ := whole_all hF
  have ht : isTy x.ty = true := by simp only [rightM, Bool.and_eq_true] at hR; exact hR.1
  have hty : tyB (whole x) = x.ty := by
    rw [whole_cons]
    exact i8_back _ hx.ty.1 hx.ty.2
  have h0 : (whole x).getD 0 0 = 1 := by rw [whole_cons]; rfl
  have hd : (whole x).drop 4 = enc x.id 4 ++ body x := by rw [whole_cons]; rfl
  have hs : short (whole x) = false := by
    unfold short
    rw [ha]
    simp
    omega
  have hm : rdMsg (whole x) = some x := by
    have hb := rdBody_enc hx hR hF hc []
    rw [List.append_nil] at hb
    unfold rdMsg
    rw [hty, if_pos ⟨ht, h0, ha.symm⟩, hd, rdN_enc hx.id, Option.bind_some, hb, Option.bind_some, if_pos ⟨rfl, hk⟩]
  unfold decE decX
  rw [hs, hm]
  exact ⟨rfl, rfl⟩
/-- The same message, its matches told within their numbers alone. -/
def cutR (r : Ru) : Ru := { r with w := fun i => if i < 22 then r.w i else 0 }
def cutM (x : Ms) : Ms := { x with r := cutR x.r, helds := x.helds.map fun h => { h with r := cutR h.r } }
theorem cutR_C (r : Ru) : ruC (cutR r) = ruC r := by
  have : mC (cutR r).w = mC r.w := cl_congr fun i hi => by show ((if i < 22 then r.w i else 0 : Nat) : Int) = _; rw [if_pos hi]
  show _ :: (mC (cutR r).w ++ _) = _ :: (mC r.w ++ _)
  rw [this]
  rfl
theorem cutM_C (x : Ms) : msC (cutM x) = msC x := by
  have h1 : hesV (cutM x).helds = hesV x.helds := by
    unfold hesV
    congr 1
    show (x.helds.map fun h => ({ h with r := cutR h.r } : He)).map heC = _
    rw [List.map_map]
    refine List.map_congr_left fun h _ => ?_
    show ruC (cutR h.r) ++ _ = ruC h.r ++ _
    rw [cutR_C]
  show V.int .i8 x.ty :: .int .u32 (x.id : Int) :: .int .i8 x.dd :: (ruC (cutR x.r) ++ [.int .u16 (x.port : Int), .bool x.up, .int .u16 (x.sw : Int), poV x.ports, poV x.edge, byV x.frame, hesV (cutM x).helds, .int .u16 (x.code : Int)]) = msC x
  rw [cutR_C, h1]
  rfl
theorem cutR_wf {r : Ru} (h : wfR r) : wfR (cutR r) := ⟨h.1, fun i hi => by show (if i < 22 then r.w i else 0) < _; rw [if_pos hi]; exact h.2.1 i hi, h.2.2.1, h.2.2.2⟩
theorem cutM_wf {x : Ms} (h : wfM x) : wfM (cutM x) := ⟨h.ty, h.id, h.dd, cutR_wf h.r, h.port, h.sw, h.ports, h.edge, h.frame, ⟨by show (x.helds.map _).length < _; rw [List.length_map]; exact h.helds.1, fun q hq => by
  obtain ⟨g, hg, rfl⟩ := List.mem_map.1 hq
  have := h.helds.2 g hg
  exact ⟨cutR_wf this.1, this.2.1, this.2.2⟩⟩, h.code⟩
theorem cutM_can (x : Ms) : canM (cutM x) := ⟨fun i hi => if_neg (by omega), fun q hq => by
  obtain ⟨g, hg, rfl⟩ := List.mem_map.1 hq
  exact fun i hi => if_neg (by omega)⟩
theorem dec_ok {raw : List Nat} (hr : Byt raw) (h : decE raw = 0) : encX (decX raw) = raw ∧ chkM (decX raw) = 0 := by
  cases hs : short raw with
  | true => unfold decE at h; rw [hs] at h; cases h
  | false =>
    cases hm : rdMsg raw with
    | none => unfold decE at h; rw [hs, hm] at h; cases h
    | some x =>
      have h8 : ¬ raw.length < 8 := by
        unfold short at hs
        simp only [Bool.or_eq_false_iff, decide_eq_false_iff_not] at hs
        exact hs.1
      obtain ⟨h1, h2⟩ := msg_inv hr (by omega) hm
      have : decX raw = x := by unfold decX; rw [hs, hm]; rfl
      rw [this]
      exact ⟨by unfold encX; rw [if_pos h2, h1], h2⟩
set_option maxHeartbeats 8000000 in
theorem ans5 (x : Ms) (hx : wfM x) (hc : canM x) (raw : List Nat) (hr : Byt raw) : Ans Try.prog 5 [.agg (msC x), byV raw] (.bool true) := by
  refine Snd_of_W fol rfl rfl (by kernel_rfl) (by kernel_rfl) ?_
  have nmx := nf_ms x
  have nby : ∀ l, nfs [byV l] = true := fun l => by simp only [nfs, nf_by, Bool.and_self]
  have e9 : ∀ a : ByteArray, (a.toList == a.toList) = true := fun a => by simp
  have sp : ∀ y : Ms, splice zM 0 (msC y) = msC y := fun y => splice_all rfl
  have hml : ∀ y : Ms, (msC y).length = 36 := fun _ => rfl
  have d0 : decide ((0 : Int) = 0) = true := rfl
  have wd := decX_wf hr
  have hat1 : ∀ (a b : B), ([a, b] : Mem)[1]? = some b := fun _ _ => rfl
  have hat2 : ∀ (a b c : B), ([a, b, c] : Mem)[2]? = some c := fun _ _ _ => rfl
  simp -implicitDefEqProofs only [sims.1, fx.1, keeps.1, tick_on, calleeK, extractV, oneV, faddrK, nonnil, b_shr, b_shl, fieldK, Nat.reduceAdd, Nat.reduceMul, Nat.reduceSub, Nat.reduceEqDiff, Nat.reduceLT, Nat.reduceLeDiff, Nat.reduceBEq, Nat.reduceBNe, reduceIte, Int.reduceEq, Int.reduceLT, Int.reduceLE, Int.reduceNe, Int.reduceToNat, part37']
  refine callD_ans (ans7 x hx) en7 (nfs_cons (nfs_ms x) rfl) (by simp only [nf, nfs, nf_by, Bool.and_self]) ?_
  cases eC : decide (chkM x = 0)
  · simp -implicitDefEqProofs only [sims.1, fx.1, keeps.1, tick_on, calleeK, extractV, oneV, faddrK, nonnil, b_shr, b_shl, fieldK, Nat.reduceAdd, Nat.reduceMul, Nat.reduceSub, Nat.reduceEqDiff, Nat.reduceLT, Nat.reduceLeDiff, Nat.reduceBEq, Nat.reduceBNe, reduceIte, Int.reduceEq, Int.reduceLT, Int.reduceLE, Int.reduceNe, Int.reduceToNat, eC]
    refine callD_ans (ans12 hr) en12 (nby raw) (by simp only [nf, nfs, nfs_ms, Bool.and_self]) ?_
    simp -implicitDefEqProofs only [sims.1, fx.1, keeps.1, tick_on, calleeK, extractV, oneV, faddrK, nonnil, b_shr, b_shl, fieldK, Nat.reduceAdd, Nat.reduceMul, Nat.reduceSub, Nat.reduceEqDiff, Nat.reduceLT, Nat.reduceLeDiff, Nat.reduceBEq, Nat.reduceBNe, reduceIte, Int.reduceEq, Int.reduceLT, Int.reduceLE, Int.reduceNe, Int.reduceToNat, al37z, storeK_agg, hml, len37z, at_app0, set_app0, at_mid, at_mid2, Nat.le_refl]
    cases eD : decide (decE raw = 0)
    · simp -implicitDefEqProofs only [sims.1, fx.1, keeps.1, tick_on, calleeK, extractV, oneV, faddrK, nonnil, b_shr, b_shl, fieldK, Nat.reduceAdd, Nat.reduceMul, Nat.reduceSub, Nat.reduceEqDiff, Nat.reduceLT, Nat.reduceLeDiff, Nat.reduceBEq, Nat.reduceBNe, reduceIte, Int.reduceEq, Int.reduceLT, Int.reduceLE, Int.reduceNe, Int.reduceToNat, eD]
      refine callD_ans ans11 en11 rfl rfl ?_
      simp -implicitDefEqProofs only [sims.1, fx.1, keeps.1, tick_on, calleeK, extractV, oneV, faddrK, nonnil, b_shr, b_shl, fieldK, Nat.reduceAdd, Nat.reduceMul, Nat.reduceSub, Nat.reduceEqDiff, Nat.reduceLT, Nat.reduceLeDiff, Nat.reduceBEq, Nat.reduceBNe, reduceIte, Int.reduceEq, Int.reduceLT, Int.reduceLE, Int.reduceNe, Int.reduceToNat]
      exact ans_ret rfl
    obtain ⟨y1, y2⟩ := dec_ok hr (of_decide_eq_true eD)
    simp -implicitDefEqProofs only [sims.1, fx.1, keeps.1, tick_on, calleeK, extractV, oneV, faddrK, nonnil, b_shr, b_shl, fieldK, Nat.reduceAdd, Nat.reduceMul, Nat.reduceSub, Nat.reduceEqDiff, Nat.reduceLT, Nat.reduceLeDiff, Nat.reduceBEq, Nat.reduceBNe, reduceIte, Int.reduceEq, Int.reduceLT, Int.reduceLE, Int.reduceNe, Int.reduceToNat, eD, zMx, sp, part37', at_mid, at_mid2, hat1, hat2]
    refine callD_ans (ans7 (decX raw) wd) en7 (nf_ms _) (by simp only [nf, nfs, nf_by, Bool.and_self]) ?_
    simp -implicitDefEqProofs only [sims.1, fx.1, keeps.1, tick_on, calleeK, extractV, oneV, faddrK, nonnil, b_shr, b_shl, fieldK, Nat.reduceAdd, Nat.reduceMul, Nat.reduceSub, Nat.reduceEqDiff, Nat.reduceLT, Nat.reduceLeDiff, Nat.reduceBEq, Nat.reduceBNe, reduceIte, Int.reduceEq, Int.reduceLT, Int.reduceLE, Int.reduceNe, Int.reduceToNat, y1, y2, d0, strByM, strEq, e9]
    refine callD_ans ans11 en11 rfl rfl ?_
    simp -implicitDefEqProofs only [sims.1, fx.1, keeps.1, tick_on, calleeK, extractV, oneV, faddrK, nonnil, b_shr, b_shl, fieldK, Nat.reduceAdd, Nat.reduceMul, Nat.reduceSub, Nat.reduceEqDiff, Nat.reduceLT, Nat.reduceLeDiff, Nat.reduceBEq, Nat.reduceBNe, reduceIte, Int.reduceEq, Int.reduceLT, Int.reduceLE, Int.reduceNe, Int.reduceToNat]
    exact ans_ret rfl
  have hk := of_decide_eq_true eC
  obtain ⟨k1, k2⟩ := msg_enc hx hk hc
  have k3 : encX x = whole x := by unfold encX; rw [if_pos hk]
  have hB := whole_byt (right_if hk).2
  simp -implicitDefEqProofs only [sims.1, fx.1, keeps.1, tick_on, calleeK, extractV, oneV, faddrK, nonnil, b_shr, b_shl, fieldK, Nat.reduceAdd, Nat.reduceMul, Nat.reduceSub, Nat.reduceEqDiff, Nat.reduceLT, Nat.reduceLeDiff, Nat.reduceBEq, Nat.reduceBNe, reduceIte, Int.reduceEq, Int.reduceLT, Int.reduceLE, Int.reduceNe, Int.reduceToNat, eC, k3]
  refine callD_ans (ans12 hB) en12 (nby _) (by simp only [nf, nfs, nfs_ms, Bool.and_self]) ?_
  rw [k1, k2]
  simp -implicitDefEqProofs only [sims.1, fx.1, keeps.1, tick_on, calleeK, extractV, oneV, faddrK, nonnil, b_shr, b_shl, fieldK, Nat.reduceAdd, Nat.reduceMul, Nat.reduceSub, Nat.reduceEqDiff, Nat.reduceLT, Nat.reduceLeDiff, Nat.reduceBEq, Nat.reduceBNe, reduceIte, Int.reduceEq, Int.reduceLT, Int.reduceLE, Int.reduceNe, Int.reduceToNat, al37z, storeK_agg, hml, len37z, Nat.le_refl, d0]
  simp -implicitDefEqProofs only [sims.1, fx.1, keeps.1, tick_on, calleeK, extractV, oneV, faddrK, nonnil, b_shr, b_shl, fieldK, Nat.reduceAdd, Nat.reduceMul, Nat.reduceSub, Nat.reduceEqDiff, Nat.reduceLT, Nat.reduceLeDiff, Nat.reduceBEq, Nat.reduceBNe, reduceIte, Int.reduceEq, Int.reduceLT, Int.reduceLE, Int.reduceNe, Int.reduceToNat, zMx, sp, part37', hat1]
  refine callD_ans (ans14 x hx) en14 (nfs_cons (nfs_ms x) (nfs_cons (nfs_ms x) rfl)) rfl ?_
  simp -implicitDefEqProofs only [sims.1, fx.1, keeps.1, tick_on, calleeK, extractV, oneV, faddrK, nonnil, b_shr, b_shl, fieldK, Nat.reduceAdd, Nat.reduceMul, Nat.reduceSub, Nat.reduceEqDiff, Nat.reduceLT, Nat.reduceLeDiff, Nat.reduceBEq, Nat.reduceBNe, reduceIte, Int.reduceEq, Int.reduceLT, Int.reduceLE, Int.reduceNe, Int.reduceToNat]
  refine callD_ans (ans12 hr) en12 (nby raw) (by simp only [nf, nfs, nfs_ms, Bool.and_self]) ?_
  simp -implicitDefEqProofs only [sims.1, fx.1, keeps.1, tick_on, calleeK, extractV, oneV, faddrK, nonnil, b_shr, b_shl, fieldK, Nat.reduceAdd, Nat.reduceMul, Nat.reduceSub, Nat.reduceEqDiff, Nat.reduceLT, Nat.reduceLeDiff, Nat.reduceBEq, Nat.reduceBNe, reduceIte, Int.reduceEq, Int.reduceLT, Int.reduceLE, Int.reduceNe, Int.reduceToNat, al37z, storeK_agg, hml, len37z, at_app0, set_app0, at_mid, at_mid2, Nat.le_refl]
  cases eD : decide (decE raw = 0)
  · simp -implicitDefEqProofs only [sims.1, fx.1, keeps.1, tick_on, calleeK, extractV, oneV, faddrK, nonnil, b_shr, b_shl, fieldK, Nat.reduceAdd, Nat.reduceMul, Nat.reduceSub, Nat.reduceEqDiff, Nat.reduceLT, Nat.reduceLeDiff, Nat.reduceBEq, Nat.reduceBNe, reduceIte, Int.reduceEq, Int.reduceLT, Int.reduceLE, Int.reduceNe, Int.reduceToNat, eD]
    refine callD_ans ans11 en11 rfl rfl ?_
    simp -implicitDefEqProofs only [sims.1, fx.1, keeps.1, tick_on, calleeK, extractV, oneV, faddrK, nonnil, b_shr, b_shl, fieldK, Nat.reduceAdd, Nat.reduceMul, Nat.reduceSub, Nat.reduceEqDiff, Nat.reduceLT, Nat.reduceLeDiff, Nat.reduceBEq, Nat.reduceBNe, reduceIte, Int.reduceEq, Int.reduceLT, Int.reduceLE, Int.reduceNe, Int.reduceToNat]
    exact ans_ret rfl
  obtain ⟨y1, y2⟩ := dec_ok hr (of_decide_eq_true eD)
  simp -implicitDefEqProofs only [sims.1, fx.1, keeps.1, tick_on, calleeK, extractV, oneV, faddrK, nonnil, b_shr, b_shl, fieldK, Nat.reduceAdd, Nat.reduceMul, Nat.reduceSub, Nat.reduceEqDiff, Nat.reduceLT, Nat.reduceLeDiff, Nat.reduceBEq, Nat.reduceBNe, reduceIte, Int.reduceEq, Int.reduceLT, Int.reduceLE, Int.reduceNe, Int.reduceToNat, eD, zMx, sp, part37', at_mid, at_mid2, hat1, hat2]
  refine callD_ans (ans7 (decX raw) wd) en7 (nf_ms _) (by simp only [nf, nfs, nf_by, Bool.and_self]) ?_
  simp -implicitDefEqProofs only [sims.1, fx.1, keeps.1, tick_on, calleeK, extractV, oneV, faddrK, nonnil, b_shr, b_shl, fieldK, Nat.reduceAdd, Nat.reduceMul, Nat.reduceSub, Nat.reduceEqDiff, Nat.reduceLT, Nat.reduceLeDiff, Nat.reduceBEq, Nat.reduceBNe, reduceIte, Int.reduceEq, Int.reduceLT, Int.reduceLE, Int.reduceNe, Int.reduceToNat, y1, y2, d0, strByM, strEq, e9]
  refine callD_ans ans11 en11 rfl rfl ?_
  simp -implicitDefEqProofs only [sims.1, fx.1, keeps.1, tick_on, calleeK, extractV, oneV, faddrK, nonnil, b_shr, b_shl, fieldK, Nat.reduceAdd, Nat.reduceMul, Nat.reduceSub, Nat.reduceEqDiff, Nat.reduceLT, Nat.reduceLeDiff, Nat.reduceBEq, Nat.reduceBNe, reduceIte, Int.reduceEq, Int.reduceLT, Int.reduceLE, Int.reduceNe, Int.reduceToNat]
  exact ans_ret rfl
end Go.Proofs.Ytjjenpdjmcmgbaa
namespace Go.Proofs.Ytjjenpdjmcmgbaa
open Go Ab
set_option linter.unusedSimpArgs false
set_option linter.unusedVariables false
set_option maxRecDepth 20000
theorem pl34 : plainT Try.prog 9 34 = true := by kernel_rfl
theorem ans5r (x : Ms) (raw : List Nat) (hx : wfM x) (hr : raw.length < lim ∧ ∀ q ∈ raw, q < 256) : Ans Try.prog 5 [.agg (msC x), byV raw] (.bool true) := by
  have := ans5 (cutM x) (cutM_wf hx) (cutM_can x) raw ⟨hr.2, hr.1⟩
  rwa [cutM_C] at this
end Go.Proofs.Ytjjenpdjmcmgbaa
