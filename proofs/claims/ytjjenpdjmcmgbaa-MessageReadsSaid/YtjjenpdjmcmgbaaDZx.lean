/- The reference's check and its writing of a message: the plain laws. No condition. The reference's check and its writing of a message: the calls. No condition. The law on writing. No condition. -/
import Derived.Test.YtjjenpdjmcmgbaaDZu
namespace Go.Proofs.Ytjjenpdjmcmgbaa
open Go Ab
set_option linter.unusedSimpArgs false
set_option linter.unusedVariables false
set_option maxRecDepth 20000
theorem flt_len {α : Type} (f : α → List Nat) (n : Nat) : ∀ {l : List α}, (∀ a ∈ l, (f a).length = n) → (l.flatMap f).length = n * l.length
  | [], _ => by simp
  | a :: r, h => by
    rw [List.flatMap_cons, List.length_append, flt_len f n fun b hb => h b (by simp [hb]), h a (by simp), List.length_cons, Nat.mul_add]
    omega
theorem flt_le {α : Type} (f : α → List Nat) (n : Nat) : ∀ {l : List α}, (∀ a ∈ l, (f a).length ≤ n) → (l.flatMap f).length ≤ n * l.length
  | [], _ => by simp
  | a :: r, h => by
    have h1 := flt_le f n fun b (hb : b ∈ r) => h b (by simp [hb])
    have h2 := h a (by simp)
    rw [List.flatMap_cons, List.length_append, List.length_cons, Nat.mul_add]
    omega
theorem flt_ge {α : Type} (f : α → List Nat) (n : Nat) : ∀ {l : List α}, (∀ a ∈ l, n ≤ (f a).length) → n * l.length ≤ (l.flatMap f).length
  | [], _ => by simp
  | a :: r, h => by
    have h1 := flt_ge f n fun b (hb : b ∈ r) => h b (by simp [hb])
    have h2 := h a (by simp)
    rw [List.flatMap_cons, List.length_append, List.length_cons, Nat.mul_add]
    omega
theorem flt_mem {α : Type} (f : α → List Nat) : ∀ {l : List α} {a : α}, a ∈ l → (f a).length ≤ (l.flatMap f).length
  | b :: r, a, h => by
    rw [List.flatMap_cons, List.length_append]
    rcases List.mem_cons.1 h with rfl | h
    · omega
    · have := flt_mem f h
      omega
theorem encC_len (c : List Act) : (encC c).length = 2 + 10 * c.length := by
  simp only [encC, List.length_append, enc_len, flt_len encA 10 fun a _ => encA_len a]
theorem encCs_len : ∀ l : List (List Act), (l.flatMap encC).length = 2 * l.length + 10 * sumL l
  | [] => rfl
  | c :: r => by
    rw [List.flatMap_cons, List.length_append, encCs_len r, encC_len]
    simp only [sumL, List.map_cons, List.sum_cons, List.length_cons]
    omega
theorem encL_len (l : List (List Act)) : (encL l).length = 2 + (2 * l.length + 10 * sumL l) := by
  simp only [encL, List.length_append, enc_len, encCs_len]
theorem encR_ge (r : Ru) : 14 + (2 * r.l.length + 10 * sumL r.l) ≤ (encR r).length := by
  simp only [encR, List.length_append, enc_len, encL_len]
  omega
theorem encR_le (r : Ru) : (encR r).length ≤ 148 + (2 * r.l.length + 10 * sumL r.l) := by
  have := encM_len r.w
  simp only [encR, List.length_append, enc_len, encL_len]
  omega
theorem great_ge {r : Ru} (h : greatR r = true) : 8192 < (encR r).length := by
  have h1 : 8192 < r.l.length + sumL r.l := of_decide_eq_true h
  have := encR_ge r
  omega
theorem great_le {r : Ru} (h : greatR r = false) : (encR r).length ≤ 100000 := by
  have h1 : ¬ 8192 < r.l.length + sumL r.l := of_decide_eq_false h
  have := encR_le r
  omega
theorem great_zero {r : Ru} (h : zeroR r = true) : greatR r = false := by
  simp only [zeroR, Bool.and_eq_true, decide_eq_true_eq] at h
  have : r.l = [] := List.eq_nil_of_length_eq_zero h.2.2.1
  simp [greatR, this, sumL]
theorem encB_len (l : List Nat) : (encB l).length = 2 + l.length := by
  simp only [encB, List.length_append, enc_len, flt_len (fun x => enc x 1) 1 fun a _ => enc_len a 1, Nat.one_mul]
theorem only_parts {x : Ms} (h : onlyM x = true) : (zeroR x.r = true ∨ x.ty = 5) ∧ ((x.ports.length = 0 ∧ x.edge.length = 0) ∨ x.ty = 4) ∧ (x.frame.length = 0 ∨ x.ty = 6 ∨ x.ty = 7) ∧ (x.helds.length = 0 ∨ x.ty = 11) := by
  simp only [onlyM, zs, inT, List.all_cons, List.all_nil, Bool.and_true, Bool.and_eq_true, Bool.or_eq_true, decide_eq_true_eq, List.mem_cons, List.not_mem_nil, or_false] at h
  obtain ⟨h1, h2, h3, h4, h5, h6, h7⟩ := h
  exact ⟨h1.elim (fun h => .inl h.2) .inr, h4.elim (fun h => .inl h.2) .inr, h5, h6⟩
theorem body4 {x : Ms} (h : x.ty = 4) : body x = enc x.sw 2 ++ (encP x.ports ++ encP x.edge) := by unfold body; rw [if_pos h]
theorem body5 {x : Ms} (h : x.ty = 5) : body x = enc (i8N x.dd) 1 ++ encR x.r := by unfold body; rw [if_neg (by omega), if_pos h]
theorem body6 {x : Ms} (h : x.ty = 6 ∨ x.ty = 7) : body x = enc x.port 2 ++ encB x.frame := by unfold body; rw [if_neg (by omega), if_neg (by omega), if_pos h]
theorem body11 {x : Ms} (h : x.ty = 11) : body x = enc x.port 2 ++ encHs x.helds := by unfold body; rw [if_neg (by omega), if_neg (by omega), if_neg (by omega), if_pos h]
theorem big_no {x : Ms} (h : rightM x = true) (hb : 8192 < x.ports.length ∨ 8192 < x.edge.length ∨ 8192 < x.frame.length ∨ 8192 < x.helds.length ∨ greatR x.r = true ∨ ∃ q ∈ x.helds, greatR q.r = true) : fits x = false := by
  have ho : onlyM x = true := by simp only [rightM, Bool.and_eq_true] at h; exact h.2.1
  obtain ⟨p1, p2, p3, p4⟩ := only_parts ho
  have key : 8192 < (body x).length + 8 := by
    rcases hb with hb | hb | hb | hb | hb | ⟨q, hq, hb⟩
    · rw [body4 (by rcases p2 with h | h; exact absurd h.1 (by omega); exact h)]
      simp only [List.length_append, enc_len, encP_len]; omega
    · rw [body4 (by rcases p2 with h | h; exact absurd h.2 (by omega); exact h)]
      simp only [List.length_append, enc_len, encP_len]; omega
    · rw [body6 (by rcases p3 with h | h; exact absurd h (by omega); exact h)]
      simp only [List.length_append, enc_len, encB_len]; omega
    · rw [body11 (by rcases p4 with h | h; exact absurd h (by omega); exact h)]
      have := flt_ge encH 1 (l := x.helds) fun a _ => by simp only [encH, List.length_append, enc_len]; omega
      simp only [List.length_append, enc_len, encHs]; omega
    · have h5 : x.ty = 5 := by
        rcases p1 with h | h
        · rw [great_zero h] at hb; cases hb
        · exact h
      rw [body5 h5]
      have := great_ge hb
      simp only [List.length_append, enc_len]; omega
    · have h11 : x.ty = 11 := by
        rcases p4 with h | h
        · rw [List.eq_nil_of_length_eq_zero h] at hq; cases hq
        · exact h
      rw [body11 h11]
      have h1 := great_ge hb
      have h2 := flt_mem encH hq
      have h3 : (encH q).length = (encR q.r).length + 16 := by simp only [encH, List.length_append, enc_len]
      simp only [List.length_append, enc_len, encHs]; omega
  unfold fits
  rw [decide_eq_false_iff_not]
  omega
theorem small {x : Ms} (h1 : x.ports.length ≤ 8192) (h2 : x.edge.length ≤ 8192) (h3 : x.frame.length ≤ 8192) (h4 : x.helds.length ≤ 8192) (h5 : greatR x.r = false) (h6 : ∀ q ∈ x.helds, greatR q.r = false) : (body x).length + 2000 ≤ bnd := by
  have g := great_le h5
  have gh := flt_le encH 100016 (l := x.helds) fun q hq => by
    have := great_le (h6 q hq)
    simp only [encH, List.length_append, enc_len]; omega
  unfold body bnd
  repeat' split
  all_goals simp only [List.length_append, enc_len, encP_len, encB_len, encHs, List.length_nil]
  all_goals omega
theorem whole_len (x : Ms) : (whole x).length = 8 + (body x).length := by simp only [whole, head, List.length_append, List.length_cons, List.length_nil, enc_len]
theorem whole_ne (x : Ms) : whole x ≠ [] := fun h => by have := whole_len x; rw [h] at this; simp at this; omega
theorem chk3 {x : Ms} (hR : rightM x = true) (h : fits x = false) : chkM x = 3 := by simp [chkM, hR, h]
theorem chk0 {x : Ms} (hR : rightM x = true) (h : fits x = true) : chkM x = 0 := by simp [chkM, hR, h]
theorem right_if {x : Ms} (hR : chkM x = 0) : rightM x = true ∧ fits x = true := by
  cases h : rightM x with
  | false => simp [chkM, h] at hR
  | true =>
    cases g : fits x with
    | true => exact ⟨rfl, rfl⟩
    | false => simp [chkM, h, g] at hR
theorem ans16 {x : Ms} (hx : wfM x) (hf : Fair x) (hb : (body x).length + 2000 ≤ bnd) : Ans Try.prog 16 [.agg (msC x)] (byV (whole x)) := by
  refine ans_lendN 1 ((snd16 hx hf hb).mono ?_)
  rintro r ⟨m1, k, rfl, hk⟩
  refine ⟨m1, _, rfl, ?_⟩
  have hl : lendV m1 (.sl 1 k 0 (whole x).length) = byV (whole x) := lend_row (hk (whole_ne x)) (by simp)
  rw [buf_cons (whole_ne x)]
  have e : lendT m1 (.sl 1 k 0 (whole x).length) = byV (whole x) := hl
  rw [e]
  exact ⟨nf_by _, rfl⟩
theorem right5 {x : Ms} (h : x.ty = 5) (ho : onlyM x = true) : rightM x = (decide (0 ≤ x.dd) && (decide (x.dd ≤ 3) && fairR x.r)) := by
  have h0 : x.helds = [] := List.eq_nil_of_length_eq_zero (by rcases (only_parts ho).2.2.2 with h | h; exact h; omega)
  simp [rightM, isTy, h, ho, h0]
theorem right11 {x : Ms} (h : x.ty = 11) (ho : onlyM x = true) : rightM x = (x.helds.all (fun h => fairR h.r) && decide (x.port ≤ 1)) := by
  simp [rightM, isTy, h, ho]
theorem right_else {x : Ms} (ht : isTy x.ty = true) (h5 : x.ty ≠ 5) (h11 : x.ty ≠ 11) (ho : onlyM x = true) : rightM x = true := by
  have h0 : x.helds = [] := List.eq_nil_of_length_eq_zero (by rcases (only_parts ho).2.2.2 with h | h; exact h; omega)
  simp [rightM, ht, ho, h0, h5, h11]
end Go.Proofs.Ytjjenpdjmcmgbaa
namespace Go.Proofs.Ytjjenpdjmcmgbaa
open Go Ab
set_option linter.unusedSimpArgs false
set_option linter.unusedVariables false
set_option maxRecDepth 20000
theorem lenH (x : Ms) : ∀ M, lenV Try.prog M 35 (hesV x.helds) = some (.int .i64 (x.helds.length : Int)) := fun M => by unfold hesV; rw [lni35, List.length_map]
theorem le1 (n : Nat) : decide ((n : Int) ≤ 1) = decide (n ≤ 1) := by rw [Bool.eq_iff_iff]; simp; omega
theorem part37' (x : Ms) : partK true 36 (msC x) 0 = some (.agg (msC x)) := rfl
set_option maxHeartbeats 4000000 in
theorem ans18 (x : Ms) (hx : wfM x) : Ans Try.prog 18 [.agg (msC x)] (.bool (rightM x)) := by
  refine Snd_of_W fol rfl rfl (by kernel_rfl) (by kernel_rfl) ?_
  have q0 : (msC x)[0]? = some (.int .i8 x.ty) := rfl
  have q2 : (msC x)[2]? = some (.int .i8 x.dd) := rfl
  have q3 : partK true 25 (msC x) 3 = some (.agg (ruC x.r)) := rfl
  have q28 : (msC x)[28]? = some (.int .u16 (x.port : Int)) := rfl
  have q34 : (msC x)[34]? = some (hesV x.helds) := rfl
  simp -implicitDefEqProofs only [sims.1, fx.1, keeps.1, tick_on, calleeK, Nat.reduceEqDiff, part37']
  refine callD_ans (ans39 x hx) en39 (nfs_cons (nfs_ms x) rfl) rfl ?_
  cases hT : isTy x.ty
  · simp -implicitDefEqProofs only [sims.1, fx.1, keeps.1, tick_on, Nat.reduceEqDiff]
    exact ans_ret (by rw [right_ty hT])
  cases ho : onlyM x
  · simp -implicitDefEqProofs only [sims.1, fx.1, keeps.1, tick_on, Nat.reduceEqDiff]
    exact ans_ret (by rw [right_only ho])
  cases h5 : decide (x.ty = 5)
  rotate_left
  · have r5 := right5 (of_decide_eq_true h5) ho
    cases d1 : decide (0 ≤ x.dd)
    · simp -implicitDefEqProofs only [sims.1, fx.1, keeps.1, tick_on, faddrK, Nat.reduceEqDiff, q0, q2, h5, d1]
      exact ans_ret (by rw [r5, d1]; rfl)
    cases d2 : decide (x.dd ≤ 3)
    · simp -implicitDefEqProofs only [sims.1, fx.1, keeps.1, tick_on, faddrK, Nat.reduceEqDiff, q0, q2, h5, d1, d2]
      exact ans_ret (by rw [r5, d1, d2]; rfl)
    simp -implicitDefEqProofs only [sims.1, fx.1, keeps.1, tick_on, calleeK, faddrK, Nat.reduceEqDiff, q0, q2, q3, h5, d1, d2]
    refine callD_ans (ans40 x.r hx.r) en40 (nfs_cons (nfs_ru x.r) rfl) rfl ?_
    simp -implicitDefEqProofs only [sims.1, fx.1, keeps.1, tick_on, Nat.reduceEqDiff]
    exact ans_ret (by rw [r5, d1, d2]; rfl)
  cases h11 : decide (x.ty = 11)
  · simp -implicitDefEqProofs only [sims.1, fx.1, keeps.1, tick_on, faddrK, Nat.reduceEqDiff, q0, h5, h11]
    exact ans_ret (by rw [right_else hT (of_decide_eq_false h5) (of_decide_eq_false h11) ho])
  have r11 := right11 (of_decide_eq_true h11) ho
  have hlh : x.helds.length < 281474976710656 := hx.helds.1
  simp -implicitDefEqProofs only [sims.1, fx.1, keeps.1, tick_on, faddrK, Nat.reduceEqDiff, q0, h5, h11]
  refine W_loopM (fun i : Nat => [(3, V.int .i64 (i : Int)), (1, V.ptr 0 0)]) (fun i M => M[0]? = some (.var 37 (msC x)) ∧ i ≤ x.helds.length ∧ ∀ k, (hk : k < x.helds.length) → k < i → fairR x.helds[k].r = true) (fun i => x.helds.length + 1 - i) 0 (by kernel_rfl) ⟨rfl, by omega, by omega⟩ ?_
  rintro i M ⟨h0, h1, h2⟩
  rcases Nat.lt_or_ge i x.helds.length with hi | hi
  · have c1 : decide (i < x.helds.length) = true := by simpa using hi
    have a1 := add1N i (by omega)
    have ia : ∀ {kk : IntKind}, iaddrS 27 (hesV x.helds) (.int kk (i : Int)) = some (.ip (heC x.helds[i])) := fun {kk} => iaddrS_isl (by simp [hi])
    simp -implicitDefEqProofs only [sims.1, fx.1, keeps.1, tick_on, calleeK, faddrK, Nat.reduceEqDiff, Nat.reduceLeDiff, h0, ltNat, c1, q34, lenH x, ia, hel x.helds[i], h0at' x.helds[i]]
    refine callD_ans (ans40 x.helds[i].r (hx.helds.2 _ (List.getElem_mem hi)).1) en40 (nfs_cons (nfs_ru _) rfl) rfl ?_
    cases hF : fairR x.helds[i].r
    · simp -implicitDefEqProofs only [sims.1, fx.1, keeps.1, tick_on, Nat.reduceEqDiff]
      exact ans_ret (by rw [right_held hi hF])
    simp -implicitDefEqProofs only [sims.1, keeps.1, tick_on, Nat.reduceEqDiff, h0, a1]
    refine ⟨i + 1, by kernel_rfl, ⟨by first | exact h0 | trivial, by omega, fun k hk hki => ?_⟩, by omega⟩
    rcases Nat.lt_or_ge k i with g | g
    · exact h2 k hk g
    · obtain rfl : k = i := by omega
      exact hF
  · obtain rfl : i = x.helds.length := by omega
    have c1 : decide (x.helds.length < x.helds.length) = false := by simp
    have hall : x.helds.all (fun h => fairR h.r) = true := by
      rw [List.all_eq_true]
      intro q hq
      obtain ⟨k, hk, rfl⟩ := List.getElem_of_mem hq
      exact h2 k hk hk
    simp -implicitDefEqProofs only [sims.1, fx.1, keeps.1, tick_on, faddrK, Nat.reduceEqDiff, h0, ltNat, c1, q34, q28, lenH x, le1]
    exact ans_ret (by rw [r11, hall]; rfl)
set_option maxHeartbeats 8000000 in
theorem ans10 (x : Ms) (hx : wfM x) : Ans Try.prog 10 [.agg (msC x)] (.int .i64 (chkM x)) := by
  refine Snd_of_W fol rfl rfl (by kernel_rfl) (by kernel_rfl) ?_
  have q3 : partK true 25 (msC x) 3 = some (.agg (ruC x.r)) := rfl
  have q31 : (msC x)[31]? = some (poV x.ports) := rfl
  have q32 : (msC x)[32]? = some (poV x.edge) := rfl
  have q33 : (msC x)[33]? = some (byV x.frame) := rfl
  have q34 : (msC x)[34]? = some (hesV x.helds) := rfl
  have lnP : ∀ M, lenV Try.prog M 33 (poV x.ports) = some (.int .i64 (x.ports.length : Int)) := fun M => by unfold poV; rw [lni33, List.length_map]
  have lnE : ∀ M, lenV Try.prog M 33 (poV x.edge) = some (.int .i64 (x.edge.length : Int)) := fun M => by unfold poV; rw [lni33, List.length_map]
  have lnF : ∀ M, lenV Try.prog M 34 (byV x.frame) = some (.int .i64 (x.frame.length : Int)) := fun M => by unfold byV; rw [lni34, List.length_map]
  simp -implicitDefEqProofs only [sims.1, fx.1, keeps.1, tick_on, calleeK, Nat.reduceEqDiff, part37']
  refine callD_ans (ans18 x hx) en18 (nfs_cons (nfs_ms x) rfl) rfl ?_
  cases hR : rightM x
  · simp -implicitDefEqProofs only [sims.1, fx.1, keeps.1, tick_on, Nat.reduceEqDiff]
    exact ans_ret (by simp [chkM, hR])
  cases e1 : decide (8192 < x.ports.length)
  rotate_left
  · simp -implicitDefEqProofs only [sims.1, fx.1, keeps.1, tick_on, faddrK, Nat.reduceEqDiff, q31, lnP, ltN8, e1]
    exact ans_ret (by rw [chk3 hR (big_no hR (by simp only [decide_eq_true_eq] at e1; omega))])
  cases e2 : decide (8192 < x.edge.length)
  rotate_left
  · simp -implicitDefEqProofs only [sims.1, fx.1, keeps.1, tick_on, faddrK, Nat.reduceEqDiff, q31, q32, lnP, lnE, ltN8, e1, e2]
    exact ans_ret (by rw [chk3 hR (big_no hR (by simp only [decide_eq_true_eq] at e2; omega))])
  cases e3 : decide (8192 < x.frame.length)
  rotate_left
  · simp -implicitDefEqProofs only [sims.1, fx.1, keeps.1, tick_on, faddrK, Nat.reduceEqDiff, q31, q32, q33, lnP, lnE, lnF, ltN8, e1, e2, e3]
    exact ans_ret (by rw [chk3 hR (big_no hR (by simp only [decide_eq_true_eq] at e3; omega))])
  cases e4 : decide (8192 < x.helds.length)
  rotate_left
  · simp -implicitDefEqProofs only [sims.1, fx.1, keeps.1, tick_on, faddrK, Nat.reduceEqDiff, q31, q32, q33, q34, lnP, lnE, lnF, lenH x, ltN8, e1, e2, e3, e4]
    exact ans_ret (by rw [chk3 hR (big_no hR (by simp only [decide_eq_true_eq] at e4; omega))])
  simp -implicitDefEqProofs only [sims.1, fx.1, keeps.1, tick_on, calleeK, faddrK, Nat.reduceEqDiff, q3, q31, q32, q33, q34, lnP, lnE, lnF, lenH x, ltN8, e1, e2, e3, e4]
  refine callD_ans (ans19 x.r hx.r) en19 (nfs_cons (nfs_ru x.r) rfl) rfl ?_
  cases e5 : greatR x.r
  rotate_left
  · simp -implicitDefEqProofs only [sims.1, fx.1, keeps.1, tick_on, Nat.reduceEqDiff]
    exact ans_ret (by rw [chk3 hR (big_no hR (.inr (.inr (.inr (.inr (.inl e5))))))])
  have hlh : x.helds.length < 281474976710656 := hx.helds.1
  simp -implicitDefEqProofs only [sims.1, keeps.1, tick_on, Nat.reduceEqDiff]
  refine W_loopM (fun i : Nat => [(3, V.int .i64 (i : Int)), (1, V.ptr 0 0)]) (fun i M => M[0]? = some (.var 37 (msC x)) ∧ i ≤ x.helds.length ∧ ∀ k, (hk : k < x.helds.length) → k < i → greatR x.helds[k].r = false) (fun i => x.helds.length + 1 - i) 0 (by kernel_rfl) ⟨rfl, by omega, by omega⟩ ?_
  rintro i M ⟨h0, h1, h2⟩
  rcases Nat.lt_or_ge i x.helds.length with hi | hi
  · have c1 : decide (i < x.helds.length) = true := by simpa using hi
    have a1 := add1N i (by omega)
    have ia : ∀ {kk : IntKind}, iaddrS 27 (hesV x.helds) (.int kk (i : Int)) = some (.ip (heC x.helds[i])) := fun {kk} => iaddrS_isl (by simp [hi])
    simp -implicitDefEqProofs only [sims.1, fx.1, keeps.1, tick_on, calleeK, faddrK, Nat.reduceEqDiff, Nat.reduceLeDiff, h0, ltNat, c1, q34, lenH x, ia, hel x.helds[i], h0at' x.helds[i]]
    refine callD_ans (ans19 x.helds[i].r (hx.helds.2 _ (List.getElem_mem hi)).1) en19 (nfs_cons (nfs_ru _) rfl) rfl ?_
    cases hF : greatR x.helds[i].r
    rotate_left
    · simp -implicitDefEqProofs only [sims.1, fx.1, keeps.1, tick_on, Nat.reduceEqDiff]
      exact ans_ret (by rw [chk3 hR (big_no hR (.inr (.inr (.inr (.inr (.inr ⟨_, List.getElem_mem hi, hF⟩))))))])
    simp -implicitDefEqProofs only [sims.1, keeps.1, tick_on, Nat.reduceEqDiff, h0, a1]
    refine ⟨i + 1, by kernel_rfl, ⟨by first | exact h0 | trivial, by omega, fun k hk hki => ?_⟩, by omega⟩
    rcases Nat.lt_or_ge k i with g | g
    · exact h2 k hk g
    · obtain rfl : k = i := by omega
      exact hF
  · obtain rfl : i = x.helds.length := by omega
    have c1 : decide (x.helds.length < x.helds.length) = false := by simp
    have hb : (body x).length + 2000 ≤ bnd := by
      simp only [decide_eq_false_iff_not] at e1 e2 e3 e4
      refine small (by omega) (by omega) (by omega) (by omega) e5 fun q hq => ?_
      obtain ⟨k, hk, rfl⟩ := List.getElem_of_mem hq
      exact h2 k hk hk
    have lnW : ∀ M, lenV Try.prog M 34 (byV (whole x)) = some (.int .i64 ((whole x).length : Int)) := fun M => by unfold byV; rw [lni34, List.length_map]
    simp -implicitDefEqProofs only [sims.1, fx.1, keeps.1, tick_on, calleeK, faddrK, Nat.reduceEqDiff, h0, ltNat, c1, q34, lenH x, part37']
    refine callD_ans (ans16 hx (right_fair hR).2 hb) en16 (nfs_cons (nfs_ms x) rfl) (nf_by _) ?_
    have e6 : decide (8192 < (whole x).length) = !fits x := by
      rw [Bool.eq_iff_iff, whole_len]
      simp [fits]
      omega
    cases hf : fits x
    · rw [hf] at e6
      simp -implicitDefEqProofs only [sims.1, fx.1, keeps.1, tick_on, Nat.reduceEqDiff, lnW, ltN8, e6]
      exact ans_ret (by rw [chk3 hR hf])
    · rw [hf] at e6
      simp -implicitDefEqProofs only [sims.1, fx.1, keeps.1, tick_on, Nat.reduceEqDiff, lnW, ltN8, e6]
      exact ans_ret (by rw [chk0 hR hf])
end Go.Proofs.Ytjjenpdjmcmgbaa
namespace Go.Proofs.Ytjjenpdjmcmgbaa
open Go Ab
set_option linter.unusedSimpArgs false
set_option linter.unusedVariables false
set_option maxRecDepth 20000
/-- Rows that are not there, told as empty ones, in an argument. -/
inductive Wk : V → V → Prop
  | eq {v : V} : Wk v v
  | nil {s : Nat} : Wk .nils (.isl s [])
inductive Wks : List V → List V → Prop
  | nil : Wks [] []
  | cons {a b : V} {l r : List V} : Wk a b → Wks l r → Wks (a :: l) (b :: r)
section
variable {N : Nat} {ρ : Pl} {I : Nat → Prop} {w : World}
theorem Wk.rv {a b : V} (h : Wk a b) {x : Value} (hx : RV N ρ I w a x) : RV N ρ I w b x := by
  cases h with
  | eq => exact hx
  | nil =>
    simp only [RV] at hx ⊢
    exact ⟨none, 0, by simpa using hx, Nat.le_refl _, by simp⟩
theorem Wks.len : ∀ {l r : List V}, Wks l r → l.length = r.length
  | _, _, .nil => rfl
  | _, _, .cons _ h => by simp [h.len]
theorem Wks.get : ∀ {l r : List V}, Wks l r → ∀ {i : Nat} {b : V}, r[i]? = some b → ∃ a, l[i]? = some a ∧ Wk a b
  | _, _, .cons h _, 0, _, hb => by
    simp only [List.getElem?_cons_zero, Option.some.injEq] at hb ⊢
    subst hb
    exact ⟨_, rfl, h⟩
  | _, _, .cons _ h, i + 1, _, hb => by
    simp only [List.getElem?_cons_succ] at hb ⊢
    exact h.get hb
theorem Wks.agg {l r : List V} (h : Wks l r) {x : Value} (hx : RV N ρ I w (.agg l) x) : RV N ρ I w (.agg r) x := by
  simp only [RV] at hx ⊢
  obtain ⟨c, h1, h2, h3⟩ := hx
  refine ⟨c, h1, by rw [← h.len, h2], Rc.mk fun i v hv => ?_⟩
  obtain ⟨a, ha, hk⟩ := h.get hv
  obtain ⟨y, k1, k2, k3⟩ := h3.get i a ha
  refine ⟨y, k1, ?_, hk.rv k3⟩
  cases hk with
  | eq => exact k2
  | nil => exact k2
end
theorem Wks.ans {P : Program} {f : FuncId} {l r : List V} {v : V} (h : Wks l r) (hA : Ans P f [.agg r] v) : Ans P f [.agg l] v := by
  intro ρ I w xs hr hl hrt
  refine hA ρ I w xs hr hl (Rt.mk fun i b hb => ?_)
  cases i with
  | zero =>
    simp only [List.getElem?_cons_zero, Option.some.injEq] at hb
    subst hb
    obtain ⟨y, k1, k2⟩ := hrt.get 0 _ rfl
    exact ⟨y, k1, h.agg k2⟩
  | succ i => simp at hb
def xW : Ms := ⟨12, 0, 0, ⟨0, fun _ => 0, [], 0⟩, 3, true, 0, [], [], [], [], 0⟩
theorem wfW : wfM xW := by
  constructor <;> first | decide | skip
  · exact ⟨by decide, fun _ _ => by show (0 : Nat) < _; omega, ⟨by decide, fun _ h => by cases h⟩, by decide⟩
  all_goals exact ⟨by decide, fun _ h => by cases h⟩
theorem chkW : chkM xW = 0 := by kernel_rfl
theorem encW : encX xW = [1, 12, 0, 11, 0, 0, 0, 0, 0, 3, 1] := by kernel_rfl
def wC : List V := mkC 12 0 0 zR 3 true 0 .nils .nils .nils .nils 0
theorem wksW : Wks wC (msC xW) := by
  unfold wC mkC zR msC xW ruC
  repeat (first | exact .nil | refine .cons .eq ?_ | refine .cons .nil ?_)
theorem ans7w : Ans Try.prog 7 [.agg wC] (.tup [byV [1, 12, 0, 11, 0, 0, 0, 0, 0, 3, 1], .int .i64 0]) := by
  have := wksW.ans (ans7 xW wfW)
  rwa [chkW, encW] at this
theorem bu37w : buildV Try.prog 37 [(0, .int .i8 12), (4, .int .u16 3), (5, .bool true)] = some (.agg wC) := by kernel_rfl
def zM : List V := mkC 0 0 0 zR 0 false 0 .nils .nils .nils .nils 0
theorem al37z (m : Mem) : allocV Try.prog 37 m = some (.ptr m.length 0, m ++ [.var 37 zM]) := al37 m
theorem rs12 (env : Env) (m : Mem) : resV Try.prog Try.prog.funcs[12] env m = (loadV Try.prog m 37 (env 2)).bind fun v => (loadV Try.prog m 38 (env 3)).bind fun u => some (.tup [v, u]) := by
  have : ∀ (fn : Func), fn.results = #[.cell 2 37, .cell 3 38] → resV Try.prog fn env m = (loadV Try.prog m 37 (env 2)).bind fun v => (loadV Try.prog m 38 (env 3)).bind fun u => some (.tup [v, u]) := by
    intro fn h
    unfold resV
    rw [h]
    simp only [List.mapM_cons, List.mapM_nil, resOne]
    cases loadV Try.prog m 37 (env 2) with
    | none => rfl
    | some v =>
      cases loadV Try.prog m 38 (env 3) with
      | none => rfl
      | some u => rfl
  exact this _ rfl
theorem at_mid {a : Mem} {b c : B} : (a ++ [b, c])[a.length]? = some b := by simp
theorem at_mid2 {a : Mem} {b c : B} : (a ++ [b, c])[a.length + 1]? = some c := by simp
theorem lt38 : decide (((3 : Nat) : Int) < 8) = true := by decide
theorem part37z : partK true 36 zM 0 = some (.agg zM) := rfl
theorem len37z : zM.length = 36 := rfl
theorem zMx : ([.int .i8 0, .int .u32 0, .int .i8 0, .int .i64 0, .int .u64 0, .int .u64 0, .int .u64 0, .int .u64 0, .int .u64 0, .int .u64 0, .int .u64 0, .int .u64 0, .int .u64 0, .int .u64 0, .int .u64 0, .int .u64 0, .int .u64 0, .int .u64 0, .int .u64 0, .int .u64 0, .int .u64 0, .int .u64 0, .int .u64 0, .int .u64 0, .int .u64 0, .int .u64 0, .nils, .int .u64 0, .int .u16 0, .bool false, .int .u16 0, .nils, .nils, .nils, .nils, .int .u16 0] : List V) = zM := rfl
set_option maxHeartbeats 4000000 in
theorem snd12s {m : Mem} {k : Nat} : Snd Try.prog 12 [.sl 1 k 0 3] m fun r => ∃ m1, r = .ret (.tup [.agg zM, .int .i64 51]) (m ++ m1) := by
  refine Snd_of_W fol rfl rfl (by kernel_rfl) (by kernel_rfl) ?_
  simp -implicitDefEqProofs only [sims.1, fx.1, tick_on]
  refine w_quiet ?_
  simp -implicitDefEqProofs only [sims.1, fx.1, keeps.1, tick_on, Nat.reduceEqDiff, lt38]
  simp only [zMx, List.append_assoc, List.cons_append, List.nil_append, List.length_append, List.length_cons, List.length_nil, Nat.zero_add]
  generalize hz : zM = z
  have hl : z.length = 36 := by rw [← hz]; rfl
  have hp : partK true 36 z 0 = some (.agg z) := partK_row hl
  have h0 : ∀ b c : B, (m ++ [b, c])[m.length]? = some b := fun b c => at_mid
  have h1 : ∀ b c : B, (m ++ [b, c])[m.length + 1]? = some c := fun b c => at_mid2
  have s0 : ∀ b c d : B, (m ++ [b, c]).set m.length d = m ++ [d, c] := fun b c d => by simp
  have s1 : ∀ b c d : B, (m ++ [b, c]).set (m.length + 1) d = m ++ [b, d] := fun b c d => by simp
  have sp : splice z 0 z = z := splice_all rfl
  simp -implicitDefEqProofs only [sims.1, fx.1, keeps.1, tick_on, Nat.reduceEqDiff, Nat.reduceLT, Nat.reduceLeDiff, rs12, h0, h1, s0, s1, hp, storeK_agg, hl, sp]
  exact ⟨_, rfl⟩
theorem numsBy : ∀ l : List Nat, numsV (l.map byC) = some (l.map fun n : Nat => (n : Int))
  | [] => rfl
  | a :: r => by simp only [List.map_cons, byC, numsV, numsBy r, Option.map_some]
theorem strBy (l : List Nat) : convV Try.prog 34 9 (byV l) = some (.str (strOfNums (l.map fun n : Nat => (n : Int)))) := by
  unfold byV
  rw [cvi34_9, numsBy]
  rfl
theorem strByM (m : Mem) (l : List Nat) : convM Try.prog m 34 9 (byV l) = some (.str (strOfNums (l.map fun n : Nat => (n : Int)))) := strBy l
theorem strEq (a b : ByteArray) : binV Try.prog .eql 9 (.str a) (.str b) = some (.bool (a.toList == b.toList)) := rfl
set_option maxHeartbeats 4000000 in
theorem ans11 : Ans Try.prog 11 [] (.bool true) := by
  refine Snd_of_W fol rfl rfl (by kernel_rfl) (by kernel_rfl) ?_
  simp -implicitDefEqProofs only [sims.1, keeps.1, tick_on, calleeK, Nat.reduceEqDiff, bu37w]
  refine callD_ans ans7w en7 rfl rfl ?_
  simp -implicitDefEqProofs only [sims.1, keeps.1, tick_on, extractV, Nat.reduceEqDiff]
  refine callD_allQ snd12s en12 ?_
  rintro r ⟨m1, rfl⟩
  refine ⟨_, _, rfl, ?_⟩
  simp -implicitDefEqProofs only [sims.1, fx.1, keeps.1, tick_on, extractV, Nat.reduceEqDiff, storeK_agg, len37z]
  simp only [zMx]
  generalize hz : zM = z
  have hl : z.length = 36 := by rw [← hz]; rfl
  have sp : splice z 0 z = z := splice_all rfl
  have h0 : ∀ b : B, (m1 ++ [b])[m1.length]? = some b := fun b => by simp
  have s0 : ∀ b d : B, (m1 ++ [b]).set m1.length d = m1 ++ [d] := fun b d => by simp
  have e8 : ((strOfNums (([1, 12, 0, 11, 0, 0, 0, 0, 0, 3, 1] : List Nat).map fun n : Nat => (n : Int))).toList == ({ data := #[1, 12, 0, 11, 0, 0, 0, 0, 0, 3, 1] } : ByteArray).toList) = true := by kernel_rfl
  simp only [List.map_cons, List.map_nil] at e8
  simp -implicitDefEqProofs only [sims.1, fx.1, keeps.1, tick_on, Nat.reduceEqDiff, h0, s0, hl, sp, strByM, strEq, e8, Nat.le_refl]
  exact ans_ret rfl
end Go.Proofs.Ytjjenpdjmcmgbaa
