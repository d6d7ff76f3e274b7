/- What is built is read as it was, in plain Lean. No condition. -/
import Derived.Test.YtpmbhjmlghoogaaNx
import Derived.Test.YtpmbhjmlghoogaaNt
namespace Go.Proofs.Ytpmbhjmlghoogaa
open Go Ab
set_option linter.unusedSimpArgs false
set_option linter.unusedVariables false
set_option maxRecDepth 20000

theorem gt_at {F : List Nat} (A C : List Nat) (x n a : Nat) (ha : A.length = a) (hF : F = A ++ (putB x n n ++ C)) : gt F a n = x % 256 ^ n := by
  subst hF ha
  unfold gt
  rw [List.drop_left, List.take_append_of_le_length (by rw [putB_len]; exact Nat.le_refl _), List.take_of_length_le (by rw [putB_len]; exact Nat.le_refl _)]
  exact num_put x n
theorem gt_pre (A R : List Nat) (a n p : Nat) (hp : A.length = p) : gt (A ++ R) (p + a) n = gt R a n := by
  subst hp
  unfold gt
  rw [← List.drop_drop, List.drop_left]
def preR (h : Hd) : List Nat := putB (h 1) 6 6 ++ putB (h 0) 6 6 ++ (bif decide (h 3 = 0) then [] else putB 33024 2 2 ++ putB (h 3) 2 2) ++ putB (h 2) 2 2
def restR (h : Hd) (b : List Nat) : List Nat := bif decide (h 2 = 2054) then arpR h (b.getD 0 0) else bif decide (h 2 = 2048) then inetR h b else b
theorem frm_split (h : Hd) (b : List Nat) : frmR h b = preR h ++ restR h b := rfl
theorem preR_len (h : Hd) : (preR h).length = bif decide (h 3 = 0) then 14 else 18 := by
  unfold preR
  cases decide (h 3 = 0) <;> simp [putB_len]
theorem head_form (h : Hd) (n : Nat) : ∃ s, headR h n = [69, 0] ++ (putB (20 + n) 2 2 ++ ([0, 0, 0, 0, 64] ++ (putB (h 6) 1 1 ++ ([s / 256, s % 256] ++ (putB (h 4) 4 4 ++ putB (h 5) 4 4))))) := by
  refine ⟨sumR (hdR h n), ?_⟩
  unfold headR setS
  generalize sumR (hdR h n) = s
  unfold hdR
  simp [putB, List.range, List.range.loop]
structure Fit (h : Hd) : Prop where
  f0 : h 0 < 281474976710656
  f1 : h 1 < 281474976710656
  f2 : h 2 < 65536
  f3 : h 3 < 4096
  f4 : h 4 < 4294967296
  f5 : h 5 < 4294967296
  f6 : h 6 < 256
  f7 : h 7 < 65536
  f8 : h 8 < 65536
  t1 : 1536 ≤ h 2 ∧ h 2 ≠ 33024
  t2 : h 2 = 2048 ∨ (h 6 = 0 ∧ (h 2 = 2054 ∨ (h 4 = 0 ∧ h 5 = 0)))
  t3 : h 6 = 6 ∨ h 6 = 17 ∨ (h 7 = 0 ∧ h 8 = 0)
theorem fit_of {h : Hd} (ok : okH h = true) : Fit h := by
  have f := ok_fit ok
  have ht : okT h = true := by unfold okH at ok; rw [Bool.and_eq_true] at ok; exact ok.2
  unfold okT at ht
  simp only [Bool.and_eq_true, Bool.not_eq_true', Bool.or_eq_false_iff, Bool.and_eq_false_iff, Bool.not_eq_false', decide_eq_false_iff_not, decide_eq_true_eq] at ht
  obtain ⟨⟨⟨a1, a2⟩, a3⟩, a4⟩ := ht
  refine ⟨f 0 (by omega), f 1 (by omega), f 2 (by omega), f 3 (by omega), f 4 (by omega), f 5 (by omega), f 6 (by omega), f 7 (by omega), f 8 (by omega), ⟨by omega, a2⟩, ?_, ?_⟩
  · rcases a3 with a3 | a3
    · exact .inl a3
    · refine .inr ⟨a3.1, ?_⟩
      rcases a3.2 with b | b
      · exact .inl b
      · exact .inr b
  · rcases a4 with a4 | a4
    · rcases a4 with b | b
      · exact .inl b
      · exact .inr (.inl b)
    · exact .inr (.inr a4)
theorem bld_parts {h : Hd} {b : List Nat} (h0 : bldF h b = 0) : okH h = true ∧ (decide (h 2 = 2054) = true → asks b = true) := by
  unfold bldF at h0
  cases ok : okH h
  · simp [ok] at h0
  refine ⟨rfl, fun k => ?_⟩
  cases ak : asks b
  · simp [ok, k, ak] at h0
  · rfl
section
variable {h : Hd} {b : List Nat}
theorem back_tag (f : Fit h) : tg (frmR h b) = !decide (h 3 = 0) := by
  have f2 := f.f2
  have t1 := f.t1
  unfold tg
  cases e : decide (h 3 = 0)
  · have g : gt (frmR h b) 12 2 = 33024 % 256 ^ 2 := by
      refine gt_at (putB (h 1) 6 6 ++ putB (h 0) 6 6) (putB (h 3) 2 2 ++ (putB (h 2) 2 2 ++ restR h b)) 33024 2 12 (by simp [putB_len]) ?_
      rw [frm_split]
      unfold preR
      rw [e]
      simp only [cond_false, List.append_assoc]
    rw [g]
    rfl
  · have g : gt (frmR h b) 12 2 = h 2 % 256 ^ 2 := by
      refine gt_at (putB (h 1) 6 6 ++ putB (h 0) 6 6) (restR h b) (h 2) 2 12 (by simp [putB_len]) ?_
      rw [frm_split]
      unfold preR
      rw [e]
      simp only [cond_true, List.append_assoc, List.nil_append]
    rw [g]
    simp
    omega
theorem back_po (f : Fit h) : po (frmR h b) = bif decide (h 3 = 0) then 14 else 18 := by
  unfold po
  rw [back_tag f]
  cases decide (h 3 = 0) <;> rfl
theorem back_kd (f : Fit h) : kd (frmR h b) = h 2 := by
  have f2 := f.f2
  have t := back_tag (b := b) f
  unfold kd
  rw [t]
  cases e : decide (h 3 = 0)
  · have g : gt (frmR h b) 16 2 = h 2 % 256 ^ 2 := by
      refine gt_at (putB (h 1) 6 6 ++ putB (h 0) 6 6 ++ (putB 33024 2 2 ++ putB (h 3) 2 2)) (restR h b) (h 2) 2 16 (by simp [putB_len]) ?_
      rw [frm_split]
      unfold preR
      rw [e]
      simp only [cond_false, List.append_assoc]
    simp only [Bool.not_false, cond_true, g]
    omega
  · have g : gt (frmR h b) 12 2 = h 2 % 256 ^ 2 := by
      refine gt_at (putB (h 1) 6 6 ++ putB (h 0) 6 6) (restR h b) (h 2) 2 12 (by simp [putB_len]) ?_
      rw [frm_split]
      unfold preR
      rw [e]
      simp only [cond_true, List.append_assoc, List.nil_append]
    simp only [Bool.not_true, cond_false, g]
    omega
theorem back_rest (f : Fit h) (a n : Nat) : gt (frmR h b) (po (frmR h b) + a) n = gt (restR h b) a n := by
  rw [back_po f, frm_split]
  exact gt_pre _ _ _ _ _ (preR_len h)
theorem back_drop (f : Fit h) (a : Nat) : (frmR h b).drop (po (frmR h b) + a) = (restR h b).drop a := by
  rw [back_po f, frm_split, ← List.drop_drop, ← preR_len h, List.drop_left]
theorem back_0 (f : Fit h) : gt (frmR h b) 6 6 = h 0 := by
  have := f.f0
  have g : gt (frmR h b) 6 6 = h 0 % 256 ^ 6 := by
    refine gt_at (putB (h 1) 6 6) ((bif decide (h 3 = 0) then [] else putB 33024 2 2 ++ putB (h 3) 2 2) ++ (putB (h 2) 2 2 ++ restR h b)) (h 0) 6 6 (by simp [putB_len]) ?_
    rw [frm_split]
    unfold preR
    simp only [List.append_assoc]
  rw [g]
  omega
theorem back_1 (f : Fit h) : gt (frmR h b) 0 6 = h 1 := by
  have := f.f1
  have g : gt (frmR h b) 0 6 = h 1 % 256 ^ 6 := by
    refine gt_at [] (putB (h 0) 6 6 ++ ((bif decide (h 3 = 0) then [] else putB 33024 2 2 ++ putB (h 3) 2 2) ++ (putB (h 2) 2 2 ++ restR h b))) (h 1) 6 0 rfl ?_
    rw [frm_split]
    unfold preR
    simp only [List.append_assoc, List.nil_append]
  rw [g]
  omega
theorem back_3 (f : Fit h) (e : decide (h 3 = 0) = false) : gt (frmR h b) 14 2 = h 3 := by
  have := f.f3
  have g : gt (frmR h b) 14 2 = h 3 % 256 ^ 2 := by
    refine gt_at (putB (h 1) 6 6 ++ putB (h 0) 6 6 ++ putB 33024 2 2) (putB (h 2) 2 2 ++ restR h b) (h 3) 2 14 (by simp [putB_len]) ?_
    rw [frm_split]
    unfold preR
    rw [e]
    simp only [cond_false, List.append_assoc]
  rw [g]
  omega
theorem arp_14 (h : Hd) (b0 : Nat) (f : Fit h) : gt (arpR h b0) 14 4 = h 4 := by
  have := f.f4
  rw [gt_at ([0, 1, 8, 0, 6, 4, 0, b0] ++ putB (h 0) 6 6) (putB (bif decide (b0 = 1) then 0 else h 1) 6 6 ++ putB (h 5) 4 4) (h 4) 4 14 (by simp [putB_len]) (by unfold arpR; simp only [List.append_assoc])]
  omega
theorem arp_24 (h : Hd) (b0 : Nat) (f : Fit h) : gt (arpR h b0) 24 4 = h 5 := by
  have := f.f5
  rw [gt_at ([0, 1, 8, 0, 6, 4, 0, b0] ++ putB (h 0) 6 6 ++ putB (h 4) 4 4 ++ putB (bif decide (b0 = 1) then 0 else h 1) 6 6) [] (h 5) 4 24 (by simp [putB_len]) (by unfold arpR; simp only [List.append_assoc, List.append_nil])]
  omega
theorem arp_7 (h : Hd) (b0 : Nat) : ((arpR h b0).drop 7).take 1 = [b0] := by
  unfold arpR
  rfl
theorem inet_9 (f : Fit h) : gt (inetR h b) 9 1 = h 6 := by
  have := f.f6
  obtain ⟨s, hs⟩ := head_form h ((portsR h b.length).length + b.length)
  rw [gt_at ([69, 0] ++ putB (20 + ((portsR h b.length).length + b.length)) 2 2 ++ [0, 0, 0, 0, 64]) ([s / 256, s % 256] ++ (putB (h 4) 4 4 ++ putB (h 5) 4 4) ++ (portsR h b.length ++ b)) (h 6) 1 9 (by simp [putB_len]) (by unfold inetR; rw [hs]; simp only [List.append_assoc])]
  omega
theorem inet_12 (f : Fit h) : gt (inetR h b) 12 4 = h 4 := by
  have := f.f4
  obtain ⟨s, hs⟩ := head_form h ((portsR h b.length).length + b.length)
  rw [gt_at ([69, 0] ++ putB (20 + ((portsR h b.length).length + b.length)) 2 2 ++ [0, 0, 0, 0, 64] ++ putB (h 6) 1 1 ++ [s / 256, s % 256]) (putB (h 5) 4 4 ++ (portsR h b.length ++ b)) (h 4) 4 12 (by simp [putB_len]) (by unfold inetR; rw [hs]; simp only [List.append_assoc])]
  omega
theorem inet_16 (f : Fit h) : gt (inetR h b) 16 4 = h 5 := by
  have := f.f5
  obtain ⟨s, hs⟩ := head_form h ((portsR h b.length).length + b.length)
  rw [gt_at ([69, 0] ++ putB (20 + ((portsR h b.length).length + b.length)) 2 2 ++ [0, 0, 0, 0, 64] ++ putB (h 6) 1 1 ++ [s / 256, s % 256] ++ putB (h 4) 4 4) (portsR h b.length ++ b) (h 5) 4 16 (by simp [putB_len]) (by unfold inetR; rw [hs]; simp only [List.append_assoc])]
  omega
theorem inet_ports (h : Hd) (b : List Nat) (hp : (decide (h 6 = 6) || decide (h 6 = 17)) = true) : ∃ C, inetR h b = headR h ((portsR h b.length).length + b.length) ++ (putB (h 7) 2 2 ++ (putB (h 8) 2 2 ++ C)) := by
  unfold inetR
  generalize headR h ((portsR h b.length).length + b.length) = X
  unfold portsR
  cases e1 : decide (h 6 = 6)
  · cases e2 : decide (h 6 = 17)
    · rw [e1, e2] at hp; cases hp
    · exact ⟨_, by simp only [cond_true, cond_false, List.append_assoc]; rfl⟩
  · exact ⟨_, by simp only [cond_true, List.append_assoc]; rfl⟩
theorem inet_20 (f : Fit h) (hp : (decide (h 6 = 6) || decide (h 6 = 17)) = true) : gt (inetR h b) 20 2 = h 7 := by
  have := f.f7
  obtain ⟨C, hC⟩ := inet_ports h b hp
  rw [gt_at (headR h ((portsR h b.length).length + b.length)) (putB (h 8) 2 2 ++ C) (h 7) 2 20 (headR_len _ _) hC]
  omega
theorem inet_22 (f : Fit h) (hp : (decide (h 6 = 6) || decide (h 6 = 17)) = true) : gt (inetR h b) 22 2 = h 8 := by
  have := f.f8
  obtain ⟨C, hC⟩ := inet_ports h b hp
  rw [gt_at (headR h ((portsR h b.length).length + b.length) ++ putB (h 7) 2 2) C (h 8) 2 22 (by simp [putB_len, headR_len]) (by rw [hC]; simp only [List.append_assoc])]
  omega
theorem inet_body (h : Hd) (b : List Nat) : (inetR h b).drop (20 + (portsR h b.length).length) = b := by
  unfold inetR
  rw [← List.append_assoc]
  have : (headR h ((portsR h b.length).length + b.length) ++ portsR h b.length).length = 20 + (portsR h b.length).length := by simp [headR_len]
  rw [← this, List.drop_left]
theorem portsR_l (h : Hd) (n : Nat) : (portsR h n).length = bif decide (h 6 = 6) then 20 else bif decide (h 6 = 17) then 8 else 0 := by
  unfold portsR
  cases decide (h 6 = 6) <;> cases decide (h 6 = 17) <;> simp [putB_len]
theorem back_pr (f : Fit h) (k : h 2 = 2048) : pr (frmR h b) = h 6 := by
  unfold pr
  rw [back_rest f]
  have : restR h b = inetR h b := by simp [restR, k]
  rw [this, inet_9 f]
theorem back_mr (f : Fit h) (k : h 2 = 2048) : mr (frmR h b) = 20 + (portsR h b.length).length := by
  unfold mr
  rw [back_kd f, back_pr f k, portsR_l]
  simp only [k, decide_true, cond_true]
  cases decide (h 6 = 6) <;> cases decide (h 6 = 17) <;> rfl
theorem rdH_3 (l : List Nat) : rdH l 3 = ((bif tg l then gt l 14 2 else 0)) := rfl
theorem back_h3 (f : Fit h) : rdH (frmR h b) 3 = h 3 := by
  have hk := back_kd (b := b) f
  have t2 := f.t2
  have t3 := f.t3
  rw [rdH_3]
  rw [back_tag f]
  cases e : decide (h 3 = 0)
  · simp only [Bool.not_false, cond_true]
    exact back_3 f e
  · simp only [Bool.not_true, cond_false]
    exact (of_decide_eq_true e).symm
theorem rdH_4 (l : List Nat) : rdH l 4 = ((bif decide (kd l = 2054) then gt l (po l + 14) 4 else bif decide (kd l = 2048) then gt l (po l + 12) 4 else 0)) := rfl
theorem back_h4 (f : Fit h) : rdH (frmR h b) 4 = h 4 := by
  have hk := back_kd (b := b) f
  have t2 := f.t2
  have t3 := f.t3
  rw [rdH_4]
  rw [hk, back_rest f, back_rest f]
  cases e1 : decide (h 2 = 2054)
  · cases e2 : decide (h 2 = 2048)
    · have e1 := of_decide_eq_false e1
      have e2 := of_decide_eq_false e2
      simp only [cond_false]
      omega
    · have : restR h b = inetR h b := by simp only [restR, e1, e2, cond_true, cond_false]
      rw [this]
      simp only [cond_true, cond_false, Bool.not_false, Bool.not_true]
      exact inet_12 f
  · have : restR h b = arpR h (b.getD 0 0) := by simp only [restR, e1, cond_true]
    rw [this]
    simp only [cond_true, cond_false, Bool.not_false, Bool.not_true]
    exact arp_14 h _ f
theorem rdH_5 (l : List Nat) : rdH l 5 = ((bif decide (kd l = 2054) then gt l (po l + 24) 4 else bif decide (kd l = 2048) then gt l (po l + 16) 4 else 0)) := rfl
theorem back_h5 (f : Fit h) : rdH (frmR h b) 5 = h 5 := by
  have hk := back_kd (b := b) f
  have t2 := f.t2
  have t3 := f.t3
  rw [rdH_5]
  rw [hk, back_rest f, back_rest f]
  cases e1 : decide (h 2 = 2054)
  · cases e2 : decide (h 2 = 2048)
    · have e1 := of_decide_eq_false e1
      have e2 := of_decide_eq_false e2
      simp only [cond_false]
      omega
    · have : restR h b = inetR h b := by simp only [restR, e1, e2, cond_true, cond_false]
      rw [this]
      simp only [cond_true, cond_false, Bool.not_false, Bool.not_true]
      exact inet_16 f
  · have : restR h b = arpR h (b.getD 0 0) := by simp only [restR, e1, cond_true]
    rw [this]
    simp only [cond_true, cond_false, Bool.not_false, Bool.not_true]
    exact arp_24 h _ f
theorem rdH_6 (l : List Nat) : rdH l 6 = ((bif decide (kd l = 2048) then pr l else 0)) := rfl
theorem back_h6 (f : Fit h) : rdH (frmR h b) 6 = h 6 := by
  have hk := back_kd (b := b) f
  have t2 := f.t2
  have t3 := f.t3
  rw [rdH_6]
  rw [hk]
  cases e2 : decide (h 2 = 2048)
  · have e2 := of_decide_eq_false e2
    simp only [cond_false]
    omega
  · simp only [cond_true]
    exact back_pr f (of_decide_eq_true e2)
theorem rdH_7 (l : List Nat) : rdH l 7 = ((bif hasP l then gt l (po l + 20) 2 else 0)) := rfl
theorem back_h7 (f : Fit h) : rdH (frmR h b) 7 = h 7 := by
  have hk := back_kd (b := b) f
  have t2 := f.t2
  have t3 := f.t3
  rw [rdH_7]
  unfold hasP
  rw [hk, back_rest f]
  cases e2 : decide (h 2 = 2048)
  · have e2 := of_decide_eq_false e2
    simp only [Bool.false_and, cond_false]
    omega
  · have k := of_decide_eq_true e2
    rw [back_pr f k]
    have : restR h b = inetR h b := by simp [restR, k]
    rw [this, Bool.true_and]
    cases hp : decide (h 6 = 6) || decide (h 6 = 17)
    · simp only [Bool.or_eq_false_iff, decide_eq_false_iff_not] at hp
      simp only [cond_false]
      omega
    · simp only [cond_true]
      exact inet_20 f hp
theorem rdH_8 (l : List Nat) : rdH l 8 = ((bif hasP l then gt l (po l + 22) 2 else 0)) := rfl
theorem back_h8 (f : Fit h) : rdH (frmR h b) 8 = h 8 := by
  have hk := back_kd (b := b) f
  have t2 := f.t2
  have t3 := f.t3
  rw [rdH_8]
  unfold hasP
  rw [hk, back_rest f]
  cases e2 : decide (h 2 = 2048)
  · have e2 := of_decide_eq_false e2
    simp only [Bool.false_and, cond_false]
    omega
  · have k := of_decide_eq_true e2
    rw [back_pr f k]
    have : restR h b = inetR h b := by simp [restR, k]
    rw [this, Bool.true_and]
    cases hp : decide (h 6 = 6) || decide (h 6 = 17)
    · simp only [Bool.or_eq_false_iff, decide_eq_false_iff_not] at hp
      simp only [cond_false]
      omega
    · simp only [cond_true]
      exact inet_22 f hp
theorem back_hd (f : Fit h) (ha : decide (h 2 = 2054) = true → asks b = true) : ∀ i, i < 9 → rdH (frmR h b) i = h i := by
  intro i hi
  match i, hi with
  | 0, _ => exact back_0 f
  | 1, _ => exact back_1 f
  | 2, _ => exact back_kd f
  | 3, _ => exact back_h3 f
  | 4, _ => exact back_h4 f
  | 5, _ => exact back_h5 f
  | 6, _ => exact back_h6 f
  | 7, _ => exact back_h7 f
  | 8, _ => exact back_h8 f
theorem back_body (f : Fit h) (ha : decide (h 2 = 2054) = true → asks b = true) : rdB (frmR h b) = b := by
  have hk := back_kd (b := b) f
  unfold rdB
  rw [hk, back_drop f, back_drop f]
  cases e1 : decide (h 2 = 2054)
  · simp only [cond_false]
    cases e2 : decide (h 2 = 2048)
    · have hm : mr (frmR h b) = 0 := by unfold mr; rw [hk, e2]; rfl
      rw [hm]
      simp only [restR, e1, e2, cond_false, List.drop_zero]
    · rw [back_mr f (of_decide_eq_true e2)]
      simp only [restR, e1, e2, cond_false, cond_true]
      exact inet_body h b
  · obtain ⟨x, rfl, _⟩ := asks_one (ha e1)
    simp only [restR, e1, cond_true]
    exact arp_7 h x
theorem back_ok (f : Fit h) (ha : decide (h 2 = 2054) = true → asks b = true) : rdOK (frmR h b) = true := by
  have hk := back_kd (b := b) f
  have hpo := back_po (b := b) f
  have hl : (frmR h b).length = (bif decide (h 3 = 0) then 14 else 18) + (restR h b).length := by rw [frm_split, List.length_append, preR_len]
  have h14 : 14 ≤ (frmR h b).length := by
    rw [hl]
    cases decide (h 3 = 0) <;> simp only [cond_true, cond_false] <;> omega
  have hn : need (frmR h b) ≤ (frmR h b).length := by
    unfold need
    rw [hk, hl, hpo]
    cases e1 : decide (h 2 = 2054)
    · simp only [cond_false]
      cases e2 : decide (h 2 = 2048)
      · have hm : mr (frmR h b) = 0 := by unfold mr; rw [hk, e2]; rfl
        omega
      · rw [back_mr f (of_decide_eq_true e2)]
        have : (restR h b).length = 20 + (portsR h b.length).length + b.length := by
          simp only [restR, e1, e2, cond_false, cond_true, inetR, List.length_append, headR_len]
          omega
        omega
    · have : (restR h b).length = 28 := by simp only [restR, e1, cond_true, arpR_len]
      simp only [cond_true]
      omega
  unfold rdOK
  rw [back_tag f]
  cases e : decide (h 3 = 0)
  · have h3 := back_3 (b := b) f e
    have h18 : 18 ≤ (frmR h b).length := by
      rw [hl, e]
      simp only [cond_false]
      omega
    have e := of_decide_eq_false e
    simp [h14, h18, hn, h3, e]
  · simp [h14, hn]
end
/-- What counts of a header. -/
theorem frmR_congr {h g : Hd} (e : ∀ i, i < 9 → h i = g i) (b : List Nat) : frmR h b = frmR g b := by
  have e0 := e 0 (by omega)
  have e1 := e 1 (by omega)
  have e2 := e 2 (by omega)
  have e3 := e 3 (by omega)
  have e4 := e 4 (by omega)
  have e5 := e 5 (by omega)
  have e6 := e 6 (by omega)
  have e7 := e 7 (by omega)
  have e8 := e 8 (by omega)
  simp only [frmR, arpR, inetR, headR, hdR, portsR, e0, e1, e2, e3, e4, e5, e6, e7, e8]
theorem bldF_congr {h g : Hd} (e : ∀ i, i < 9 → h i = g i) (g9 : g 9 = 0) (g10 : g 10 = 0) (b : List Nat) (h0 : bldF h b = 0) : bldF g b = 0 := by
  obtain ⟨ok, _⟩ := bld_parts h0
  have f := ok_fit ok
  have e2 := e 2 (by omega)
  have e3 := e 3 (by omega)
  have e4 := e 4 (by omega)
  have e5 := e 5 (by omega)
  have e6 := e 6 (by omega)
  have e7 := e 7 (by omega)
  have e8 := e 8 (by omega)
  have ok2 : okH g = true := by
    unfold okH at ok ⊢
    rw [Bool.and_eq_true] at ok ⊢
    refine ⟨List.all_eq_true.2 fun i hi => ?_, ?_⟩
    · have hi := List.mem_range.1 hi
      by_cases h9 : i < 9
      · rw [← e i h9]; simpa using f i hi
      · have : i = 9 ∨ i = 10 := by omega
        rcases this with rfl | rfl
        · rw [g9]; decide
        · rw [g10]; decide
    · have := ok.2
      simp only [okT, e2, e4, e5, e6, e7, e8] at this ⊢
      exact this
  unfold bldF at h0 ⊢
  rw [ok] at h0
  rw [ok2, ← e2, ← frmR_congr e b]
  have hm : mostH g = mostH h := by unfold mostH; rw [e3]
  rw [hm]
  exact h0
/-- What is built is read as it was. -/
theorem built_read {h : Hd} {b : List Nat} (h0 : bldF h b = 0) : prsK (frmR h b) = true ∧ (∀ i, i < 9 → rdH (frmR h b) i = h i) ∧ rdB (frmR h b) = b := by
  obtain ⟨ok, ha⟩ := bld_parts h0
  have f := fit_of ok
  have h1 := back_hd f ha
  have h2 := back_body f ha
  refine ⟨?_, h1, h2⟩
  have h3 : bldF (rdH (frmR h b)) b = 0 := bldF_congr (fun i hi => (h1 i hi).symm) rfl rfl b h0
  have h4 : frmR (rdH (frmR h b)) b = frmR h b := frmR_congr h1 b
  unfold prsK
  rw [back_ok f ha, h2, h3, h4]
  simp
end Go.Proofs.Ytpmbhjmlghoogaa
