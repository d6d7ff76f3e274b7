/- The reference's check and its writing of a message: the plain laws. No condition. -/
import Derived.Test.YtjjenpdjmcmgbaaZu
namespace Go.Proofs.Ytjjenpdjmcmgbaa
open Go Ab
set_option linter.unusedSimpArgs false
set_option linter.unusedVariables false
set_option maxRecDepth 20000

theorem flt_len {α : Type} (f : α → List Nat) (n : Nat) : ∀ {l : List α}, (∀ a ∈ l, (f a).length = n) → (l.flatMap f).length = n * l.length
  | [], _ => by simp
  | a :: r, h => by
    rw [List.flatMap_cons, List.length_append, flt_len f n fun b hb => h b (by simp [hb]), h a (by simp), List.length_cons, Nat.mul_add]
    omega
theorem flt_le {α : Type} (f : α → List Nat) (n : Nat) : ∀ {l : List α}, (∀ a ∈ l, (f a).length ≤ n) → (l.flatMap f).length ≤ n * l.length
  | [], _ => by simp
  | a :: r, h => by
    have h1 := flt_le f n fun b (hb : b ∈ r) => h b (by simp [hb])
    have h2 := h a (by simp)
    rw [List.flatMap_cons, List.length_append, List.length_cons, Nat.mul_add]
    omega
theorem flt_ge {α : Type} (f : α → List Nat) (n : Nat) : ∀ {l : List α}, (∀ a ∈ l, n ≤ (f a).length) → n * l.length ≤ (l.flatMap f).length
  | [], _ => by simp
  | a :: r, h => by
    have h1 := flt_ge f n fun b (hb : b ∈ r) => h b (by simp [hb])
    have h2 := h a (by simp)
    rw [List.flatMap_cons, List.length_append, List.length_cons, Nat.mul_add]
    omega
theorem flt_mem {α : Type} (f : α → List Nat) : ∀ {l : List α} {a : α}, a ∈ l → (f a).length ≤ (l.flatMap f).length
  | b :: r, a, h => by
    rw [List.flatMap_cons, List.length_append]
    rcases List.mem_cons.1 h with rfl | h
    · omega
    · have := flt_mem f h
      omega
theorem encC_len (c : List Act) : (encC c).length = 2 + 10 * c.length := by
  simp only [encC, List.length_append, enc_len, flt_len encA 10 fun a _ => encA_len a]
theorem encCs_len : ∀ l : List (List Act), (l.flatMap encC).length = 2 * l.length + 10 * sumL l
  | [] => rfl
  | c :: r => by
    rw [List.flatMap_cons, List.length_append, encCs_len r, encC_len]
    simp only [sumL, List.map_cons, List.sum_cons, List.length_cons]
    omega
theorem encL_len (l : List (List Act)) : (encL l).length = 2 + (2 * l.length + 10 * sumL l) := by
  simp only [encL, List.length_append, enc_len, encCs_len]
theorem encR_ge (r : Ru) : 14 + (2 * r.l.length + 10 * sumL r.l) ≤ (encR r).length := by
  simp only [encR, List.length_append, enc_len, encL_len]
  omega
theorem encR_le (r : Ru) : (encR r).length ≤ 148 + (2 * r.l.length + 10 * sumL r.l) := by
  have := encM_len r.w
  simp only [encR, List.length_append, enc_len, encL_len]
  omega
theorem great_ge {r : Ru} (h : greatR r = true) : 8192 < (encR r).length := by
  have h1 : 8192 < r.l.length + sumL r.l := of_decide_eq_true h
  have := encR_ge r
  omega
theorem great_le {r : Ru} (h : greatR r = false) : (encR r).length ≤ 100000 := by
  have h1 : ¬ 8192 < r.l.length + sumL r.l := of_decide_eq_false h
  have := encR_le r
  omega
theorem great_zero {r : Ru} (h : zeroR r = true) : greatR r = false := by
  simp only [zeroR, Bool.and_eq_true, decide_eq_true_eq] at h
  have : r.l = [] := List.eq_nil_of_length_eq_zero h.2.2.1
  simp [greatR, this, sumL]
theorem encB_len (l : List Nat) : (encB l).length = 2 + l.length := by
  simp only [encB, List.length_append, enc_len, flt_len (fun x => enc x 1) 1 fun a _ => enc_len a 1, Nat.one_mul]
theorem only_parts {x : Ms} (h : onlyM x = true) : (zeroR x.r = true ∨ x.ty = 5) ∧ ((x.ports.length = 0 ∧ x.edge.length = 0) ∨ x.ty = 4) ∧ (x.frame.length = 0 ∨ x.ty = 6 ∨ x.ty = 7) ∧ (x.helds.length = 0 ∨ x.ty = 11) := by
  simp only [onlyM, zs, inT, List.all_cons, List.all_nil, Bool.and_true, Bool.and_eq_true, Bool.or_eq_true, decide_eq_true_eq, List.mem_cons, List.not_mem_nil, or_false] at h
  obtain ⟨h1, h2, h3, h4, h5, h6, h7⟩ := h
  exact ⟨h1.elim (fun h => .inl h.2) .inr, h4.elim (fun h => .inl h.2) .inr, h5, h6⟩
theorem body4 {x : Ms} (h : x.ty = 4) : body x = enc x.sw 2 ++ (encP x.ports ++ encP x.edge) := by unfold body; rw [if_pos h]
theorem body5 {x : Ms} (h : x.ty = 5) : body x = enc (i8N x.dd) 1 ++ encR x.r := by unfold body; rw [if_neg (by omega), if_pos h]
theorem body6 {x : Ms} (h : x.ty = 6 ∨ x.ty = 7) : body x = enc x.port 2 ++ encB x.frame := by unfold body; rw [if_neg (by omega), if_neg (by omega), if_pos h]
theorem body11 {x : Ms} (h : x.ty = 11) : body x = enc x.port 2 ++ encHs x.helds := by unfold body; rw [if_neg (by omega), if_neg (by omega), if_neg (by omega), if_pos h]
theorem big_no {x : Ms} (h : rightM x = true) (hb : 8192 < x.ports.length ∨ 8192 < x.edge.length ∨ 8192 < x.frame.length ∨ 8192 < x.helds.length ∨ greatR x.r = true ∨ ∃ q ∈ x.helds, greatR q.r = true) : fits x = false := by
  have ho : onlyM x = true := by simp only [rightM, Bool.and_eq_true] at h; exact h.2.1
  obtain ⟨p1, p2, p3, p4⟩ := only_parts ho
  have key : 8192 < (body x).length + 8 := by
    rcases hb with hb | hb | hb | hb | hb | ⟨q, hq, hb⟩
    · rw [body4 (by rcases p2 with h | h; exact absurd h.1 (by omega); exact h)]
      simp only [List.length_append, enc_len, encP_len]; omega
    · rw [body4 (by rcases p2 with h | h; exact absurd h.2 (by omega); exact h)]
      simp only [List.length_append, enc_len, encP_len]; omega
    · rw [body6 (by rcases p3 with h | h; exact absurd h (by omega); exact h)]
      simp only [List.length_append, enc_len, encB_len]; omega
    · rw [body11 (by rcases p4 with h | h; exact absurd h (by omega); exact h)]
      have := flt_ge encH 1 (l := x.helds) fun a _ => by simp only [encH, List.length_append, enc_len]; omega
      simp only [List.length_append, enc_len, encHs]; omega
    · have h5 : x.ty = 5 := by
        rcases p1 with h | h
        · rw [great_zero h] at hb; cases hb
        · exact h
      rw [body5 h5]
      have := great_ge hb
      simp only [List.length_append, enc_len]; omega
    · have h11 : x.ty = 11 := by
        rcases p4 with h | h
        · rw [List.eq_nil_of_length_eq_zero h] at hq; cases hq
        · exact h
      rw [body11 h11]
      have h1 := great_ge hb
      have h2 := flt_mem encH hq
      have h3 : (encH q).length = (encR q.r).length + 16 := by simp only [encH, List.length_append, enc_len]
      simp only [List.length_append, enc_len, encHs]; omega
  unfold fits
  rw [decide_eq_false_iff_not]
  omega
theorem small {x : Ms} (h1 : x.ports.length ≤ 8192) (h2 : x.edge.length ≤ 8192) (h3 : x.frame.length ≤ 8192) (h4 : x.helds.length ≤ 8192) (h5 : greatR x.r = false) (h6 : ∀ q ∈ x.helds, greatR q.r = false) : (body x).length + 2000 ≤ bnd := by
  have g := great_le h5
  have gh := flt_le encH 100016 (l := x.helds) fun q hq => by
    have := great_le (h6 q hq)
    simp only [encH, List.length_append, enc_len]; omega
  unfold body bnd
  repeat' split
  all_goals simp only [List.length_append, enc_len, encP_len, encB_len, encHs, List.length_nil]
  all_goals omega
theorem whole_len (x : Ms) : (whole x).length = 8 + (body x).length := by simp only [whole, head, List.length_append, List.length_cons, List.length_nil, enc_len]
theorem whole_ne (x : Ms) : whole x ≠ [] := fun h => by have := whole_len x; rw [h] at this; simp at this; omega
theorem chk3 {x : Ms} (hR : rightM x = true) (h : fits x = false) : chkM x = 3 := by simp [chkM, hR, h]
theorem chk0 {x : Ms} (hR : rightM x = true) (h : fits x = true) : chkM x = 0 := by simp [chkM, hR, h]
theorem right_if {x : Ms} (hR : chkM x = 0) : rightM x = true ∧ fits x = true := by
  cases h : rightM x with
  | false => simp [chkM, h] at hR
  | true =>
    cases g : fits x with
    | true => exact ⟨rfl, rfl⟩
    | false => simp [chkM, h, g] at hR
theorem ans16 {x : Ms} (hx : wfM x) (hf : Fair x) (hb : (body x).length + 2000 ≤ bnd) : Ans Try.prog 16 [.agg (msC x)] (byV (whole x)) := by
  refine ans_lendN 1 ((snd16 hx hf hb).mono ?_)
  rintro r ⟨m1, k, rfl, hk⟩
  refine ⟨m1, _, rfl, ?_⟩
  have hl : lendV m1 (.sl 1 k 0 (whole x).length) = byV (whole x) := lend_row (hk (whole_ne x)) (by simp)
  rw [buf_cons (whole_ne x)]
  have e : lendT m1 (.sl 1 k 0 (whole x).length) = byV (whole x) := hl
  rw [e]
  exact ⟨nf_by _, rfl⟩
theorem right5 {x : Ms} (h : x.ty = 5) (ho : onlyM x = true) : rightM x = (decide (0 ≤ x.dd) && (decide (x.dd ≤ 3) && fairR x.r)) := by
  have h0 : x.helds = [] := List.eq_nil_of_length_eq_zero (by rcases (only_parts ho).2.2.2 with h | h; exact h; omega)
  simp [rightM, isTy, h, ho, h0]
theorem right11 {x : Ms} (h : x.ty = 11) (ho : onlyM x = true) : rightM x = (x.helds.all (fun h => fairR h.r) && decide (x.port ≤ 1)) := by
  simp [rightM, isTy, h, ho]
theorem right_else {x : Ms} (ht : isTy x.ty = true) (h5 : x.ty ≠ 5) (h11 : x.ty ≠ 11) (ho : onlyM x = true) : rightM x = true := by
  have h0 : x.helds = [] := List.eq_nil_of_length_eq_zero (by rcases (only_parts ho).2.2.2 with h | h; exact h; omega)
  simp [rightM, ht, ho, h0, h5, h11]
end Go.Proofs.Ytjjenpdjmcmgbaa
