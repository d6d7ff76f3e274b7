/- What is told between two lists of rules, as the document tells it. No condition. -/
import Derived.Test.YtggdnepfahknbaaYm
import Derived.Test.YtggdnepfahknbaaYf
namespace Go.Proofs.Ytggdnepfahknbaa
open Go Ab
set_option linter.unusedSimpArgs false
set_option linter.unusedVariables false
set_option maxRecDepth 20000

/-- Messages as this function lays them: rules as they are told. -/
def meQ (x : Me) : List V := bif decide (x.d = 3) then meN x else meC x
theorem nfs_meQ (x : Me) : nfs (meQ x) = true := by
  unfold meQ
  cases decide (x.d = 3)
  · exact nfs_me x
  · exact nfs_meN x
def RowQ (mm : Mem) (q : Nat) (o : List Me) : Prop := o ≠ [] → mm[q]? = some (.row 45 36 (o.map meQ))
theorem app_mq {mm : Mem} {q : Nat} {o : List Me} (x : Me) (h : RowQ mm q o) (hl : o.length ≤ 200000) :
    ∃ mm', appendA Try.prog 26 26 (mV o.length q) (.sl 36 mm.length 0 1) (mm ++ [.row 45 36 [meQ x]]) = some (mV (o.length + 1) (mm.length + 1), mm') ∧ mm'.length = mm.length + 2 ∧ RowQ mm' (mm.length + 1) (o ++ [x]) ∧ ∀ k, k < mm.length → (k ≠ q ∨ o = []) → mm'[k]? = mm[k]? := by
  obtain ⟨mm', h1, h2, h3, h4⟩ := app_any (t := 26) (e := 45) (s := 36) (by kernel_rfl) zE45 (by kernel_rfl) (mm := mm) (q := q) (l := o.map meQ) (v := mV o.length q) (meQ x) (by
    cases o with
    | nil => exact .inl ⟨rfl, rfl⟩
    | cons a l => exact .inr ⟨by simp, by rw [List.length_map]; rfl, h (by simp)⟩) (by rw [List.length_map]; exact hl)
  rw [List.length_map] at h1
  refine ⟨mm', h1, h2, fun _ => by rw [h3]; simp, fun k hk hn => h4 k hk (hn.imp id fun e => by rw [e]; rfl)⟩
theorem bsQ (x : Me) (m : Mem) : bsliceV Try.prog 26 1 [(0, .agg (meQ x))] m = some (.sl 36 m.length 0 1, m ++ [.row 45 36 [meQ x]]) := by
  have h1 : ((zeroE Try.prog 45).map fun x => (x.1.length, x.2.1)) = some (36, 36) := by kernel_rfl
  have hl : (meQ x).length = 36 := by
    unfold meQ
    cases decide (x.d = 3) <;> rfl
  unfold bsliceV
  cases hz : zeroE Try.prog 45 with
  | none => rw [hz] at h1; cases h1
  | some z =>
    obtain ⟨z0, z1, z2⟩ := z
    rw [hz] at h1
    simp at h1
    obtain ⟨h2, rfl⟩ := h1
    simp only [un26, hz, frzQ_45 (frzL_nf m (nfs_meQ x))]
    have hb : Nat.beq (cellsOfV (.agg (meQ x))).length 36 = true := by show Nat.beq (meQ x).length 36 = true; rw [hl]; rfl
    have hc : cellsB (.agg (meQ x)) = true := rfl
    simp only [fillE, hb, hc]
    rfl
theorem b45q (r : Ru) : buildV Try.prog 45 [(0, .int .i8 5), (2, .int .i8 3), (3, .agg (ruN (plR r)))] = some (.agg (meQ ⟨3, plR r⟩)) := by kernel_rfl
theorem b45s (r : Ru) : buildV Try.prog 45 [(0, .int .i8 5), (2, .int .i8 0), (3, ruV r)] = some (.agg (meQ ⟨0, r⟩)) := by kernel_rfl
theorem nms_mV {n q : Nat} {k : Nat} (h : k ∈ nms (mV n q)) : n ≠ 0 ∧ k = q := by
  cases n with
  | zero => simp [mV, nms] at h
  | succ n => simp [mV, nms] at h; exact ⟨by omega, h⟩
theorem split_while {r : Ru} : ∀ {X Y : List Ru}, (∀ y ∈ X, ltD r y = false) → (∀ y ∈ Y, ltD r y = true) → (X ++ Y).takeWhile (fun y => !ltD r y) = X ∧ (X ++ Y).dropWhile (fun y => !ltD r y) = Y
  | [], [], _, _ => ⟨rfl, rfl⟩
  | [], y :: Y, _, h => by simp [h y (by simp)]
  | x :: X, Y, h1, h2 => by
    have := split_while (X := X) (Y := Y) (fun y hy => h1 y (by simp [hy])) h2
    simp [h1 x (by simp), this.1, this.2]
/-- A rule is laid where it belongs: behind all that are not less. -/
theorem ins_at {l : List Ru} {r : Ru} {k : Nat} (hk : k ≤ (ssort ltD l).length) (h1 : ∀ y ∈ (ssort ltD l).drop k, ltD r y = true) (h2 : k = 0 ∨ ∃ h : k - 1 < (ssort ltD l).length, ltD r ((ssort ltD l)[k - 1]) = false) :
    ssort ltD (l ++ [r]) = (ssort ltD l).take k ++ r :: (ssort ltD l).drop k := by
  rw [ssort_snoc]
  have hs := ssort_srt ordD l
  generalize ssort ltD l = S at hk h1 h2 hs ⊢
  have h3 : ∀ y ∈ S.take k, ltD r y = false := by
    intro y hy
    rcases h2 with rfl | ⟨hlt, h2⟩
    · simp at hy
    · obtain ⟨j, hj, rfl⟩ := List.mem_iff_getElem.1 hy
      rw [List.getElem_take]
      rw [List.length_take] at hj
      by_cases he : j = k - 1
      · subst he; exact h2
      · have := (List.pairwise_iff_getElem.1 hs) j (k - 1) (by omega) hlt (by omega)
        unfold ltD at this h2 ⊢
        simp only [decide_eq_false_iff_not] at this h2 ⊢
        omega
  have := split_while h3 h1
  rw [List.take_append_drop] at this
  rw [this.1, this.2]
theorem app_rr {mm : Mem} {q : Nat} {l l1 : List Ru} {x : V} (h : RowR mm q l) (hx : contV mm 25 x = some (l1.map ruC)) (hl : l.length + l1.length ≤ 200000) :
    ∃ mm' q', appendA Try.prog 22 22 (rV l.length q) x mm = some (rV (l ++ l1).length q', mm') ∧ RowR mm' q' (l ++ l1) ∧ mm.length ≤ mm'.length ∧ (∀ k, k < mm.length → (k ≠ q ∨ l = []) → mm'[k]? = mm[k]?) ∧ (l ++ l1 ≠ [] → mm.length ≤ q') := by
  obtain ⟨z, b, h1, h2⟩ := zE_of zE36
  cases l with
  | nil =>
    cases l1 with
    | nil => exact ⟨mm, q, append_none un22 h1 (by kernel_rfl) hx, fun h => absurd rfl h, Nat.le_refl _, fun _ _ _ => rfl, fun h => absurd rfl h⟩
    | cons a r =>
      have hlen : ((a :: r).map ruC).length = (a :: r).length := List.length_map ..
      have hm : (a :: r).length * b ≤ 200000 * 1000 := Nat.mul_le_mul (by simpa using hl) h2
      have := append_nil (u := 22) un22 h1 (by kernel_rfl) hx (by simp) (by rw [hlen]; omega) (by rw [hlen]; simp at hl ⊢; omega)
      rw [hlen] at this
      exact ⟨_, mm.length, this, fun _ => by simp, by simp, fun k hk _ => List.getElem?_append_left hk, fun _ => Nat.le_refl _⟩
  | cons a r =>
    have hr := h (by simp)
    have hlen : ((a :: r).map ruC).length = (a :: r).length := List.length_map ..
    have hlen1 : (l1.map ruC).length = l1.length := List.length_map ..
    have hq := (List.getElem?_eq_some_iff.1 hr).1
    have hm : ((a :: r).length + l1.length) * b ≤ 200000 * 1000 := Nat.mul_le_mul hl h2
    have := append_sl (u := 22) (len := (a :: r).length) un22 h1 (by kernel_rfl) hx hr hlen.symm (by rw [hlen, hlen1]; omega) (by rw [hlen, hlen1]; omega)
    rw [← List.map_append, List.length_map] at this
    refine ⟨_, mm.length, this, fun _ => by simp, by simp, fun k hk hn => ?_, fun _ => Nat.le_refl _⟩
    rcases hn with hn | hn
    · rw [List.getElem?_append_left (by simpa using hk), List.getElem?_set_ne (Ne.symm hn)]
    · cases hn
theorem cont_part {m : Mem} {q : Nat} {l : List Ru} {o n : Nat} (h : RowR m q l) (hl : l ≠ []) (hon : o + n ≤ l.length) : contV m 25 (.sl 25 q o n) = some (((l.drop o).take n).map ruC) := by
  have := h hl
  have h2 : Nat.ble (o + n) (l.map ruC).length = true := by rw [List.length_map]; exact Nat.ble_eq ▸ hon
  simp only [contV, this, h2]
  simp [List.map_take, List.map_drop]
theorem cont_one {m : Mem} {q : Nat} {r : Ru} (h : m[q]? = some (.row 36 25 [ruC r])) : contV m 25 (.sl 25 q 0 1) = some ([r].map ruC) := by
  simp only [contV, h]
  rfl
/-- The head of a list of rules, the tail of it. -/
def hdV (n q k : Nat) : V := match n with
  | 0 => .nils
  | _ + 1 => .sl 25 q 0 k
def tlV (n q k : Nat) : V := match n with
  | 0 => .nils
  | _ + 1 => .sl 25 q k (n - k)
theorem i36 : (Try.prog.info? 36).map (fun i => i.size) = some 25 := by kernel_rfl
theorem sl_hd {n q k : Nat} (hk : k ≤ n) : sliceV Try.prog 22 (rV n q) none (some (.int .i64 (k : Int))) = some (hdV n q k) := by
  obtain ⟨inf, h1, h2⟩ := sized i36
  cases n with
  | zero =>
    obtain rfl : k = 0 := by omega
    simp [rV, hdV, sliceV, un22, h1, bndV]
  | succ n =>
    have hb : Nat.beq 25 inf.size = true := by rw [h2]; rfl
    simp only [rV, hdV, sliceV, un22, h1, hb, cond_true, bndV]
    rw [if_pos ⟨by omega, by omega, by omega⟩]
    simp
theorem sl_tl {n q k : Nat} (hk : k ≤ n) : sliceV Try.prog 22 (rV n q) (some (.int .i64 (k : Int))) none = some (tlV n q k) := by
  obtain ⟨inf, h1, h2⟩ := sized i36
  cases n with
  | zero =>
    obtain rfl : k = 0 := by omega
    simp [rV, tlV, sliceV, un22, h1, bndV]
  | succ n =>
    have hb : Nat.beq 25 inf.size = true := by rw [h2]; rfl
    simp only [rV, tlV, sliceV, un22, h1, hb, cond_true, bndV]
    rw [if_pos ⟨by omega, by omega, by omega⟩]
    simp
theorem cont_hd {m : Mem} {q : Nat} {l : List Ru} {k : Nat} (h : RowR m q l) (hk : k ≤ l.length) : contV m 25 (hdV l.length q k) = some ((l.take k).map ruC) := by
  cases l with
  | nil => simp [hdV, contV]
  | cons a r =>
    have := cont_part (o := 0) (n := k) h (by simp) (by omega)
    rw [List.drop_zero] at this
    exact this
theorem cont_tl {m : Mem} {q : Nat} {l : List Ru} {k : Nat} (h : RowR m q l) (hk : k ≤ l.length) : contV m 25 (tlV l.length q k) = some ((l.drop k).map ruC) := by
  cases l with
  | nil => simp [tlV, contV]
  | cons a r =>
    have := cont_part (o := k) (n := (a :: r).length - k) h (by simp) (by omega)
    rw [List.take_of_length_le (by simp)] at this
    exact this

set_option maxHeartbeats 4000000 in
theorem ans10w (was now : List Ru) (hw1 : ∀ r ∈ was, wfR r) (hw2 : ∀ r ∈ now, wfR r) (hl1 : was.length ≤ 150) (hl2 : now.length ≤ 150) :
    Snd Try.prog 10 [rsV was, rsV now] [] fun r => ∃ m1 q, r = .ret (mV (btw was now).length q) m1 ∧ RowQ m1 q (btw was now) := by
  refine Snd_of_W fol rfl rfl (by kernel_rfl) (by kernel_rfl) ?_
  have evn : ∀ env, evO env (.const (.slice none 0 0)) = .nils := fun _ => rfl
  simp -implicitDefEqProofs only [sims.1, fx.1, keeps.1, tick_on, calleeK, extractV, oneV, faddrK, nonnil, b_shr, b_shl, fieldK, Nat.reduceAdd, Nat.reduceMul, Nat.reduceSub, Nat.reduceEqDiff, Nat.reduceLT, Nat.reduceLeDiff, Nat.reduceBEq, Nat.reduceBNe, reduceIte, Int.reduceEq, Int.reduceLT, Int.reduceLE, Int.reduceNe, Int.reduceToNat, evn]
  refine callD_ans (ans19 was hw1 (by omega)) en19 (nfs_cons (nf_rs _) rfl) (nf_rs _) ?_
  simp -implicitDefEqProofs only [sims.1, fx.1, keeps.1, tick_on, calleeK, extractV, oneV, faddrK, nonnil, b_shr, b_shl, fieldK, Nat.reduceAdd, Nat.reduceMul, Nat.reduceSub, Nat.reduceEqDiff, Nat.reduceLT, Nat.reduceLeDiff, Nat.reduceBEq, Nat.reduceBNe, reduceIte, Int.reduceEq, Int.reduceLT, Int.reduceLE, Int.reduceNe, Int.reduceToNat]
  refine callD_ans (ans19 now hw2 (by omega)) en19 (nfs_cons (nf_rs _) rfl) (nf_rs _) ?_
  simp -implicitDefEqProofs only [sims.1, fx.1, keeps.1, tick_on, calleeK, extractV, oneV, faddrK, nonnil, b_shr, b_shl, fieldK, Nat.reduceAdd, Nat.reduceMul, Nat.reduceSub, Nat.reduceEqDiff, Nat.reduceLT, Nat.reduceLeDiff, Nat.reduceBEq, Nat.reduceBNe, reduceIte, Int.reduceEq, Int.reduceLT, Int.reduceLE, Int.reduceNe, Int.reduceToNat, evn]
  have hwA : ∀ r ∈ lastL was, wfR r := fun r hr => hw1 r (lastL_sub hr)
  have hwB : ∀ r ∈ lastL now, wfR r := fun r hr => hw2 r (lastL_sub hr)
  have hlA : (lastL was).length ≤ 150 := Nat.le_trans (lastL_len was) hl1
  have hlB : (lastL now).length ≤ 150 := Nat.le_trans (lastL_len now) hl2
  have hrem : remL was now = ((lastL was).filter fun p => !(lastL now).any (pl p)).map fun p => ⟨3, plR p⟩ := by
    unfold remL
    congr 2
    funext p
    rw [lastL_any]
  have hbt : btw was now = remL was now ++ (ssort ltD ((lastL now).filter fun r => !(lastL was).any (alk r))).map fun r => ⟨0, r⟩ := rfl
  rw [hbt, hrem]
  clear hbt hrem
  generalize lastL was = A at hwA hlA ⊢
  generalize lastL now = B at hwB hlB ⊢
  refine W_loopM (fun x : Nat × (List Me × Nat) => [(8, .int .i64 (x.1 : Int)), (5, rsV A), (6, rsV B), (7, mV x.2.1.length x.2.2)])
    (fun x mm => x.1 ≤ A.length ∧ x.2.1 = ((A.take x.1).filter fun p => !B.any (pl p)).map (fun p => (⟨3, plR p⟩ : Me)) ∧ x.2.1.length ≤ x.1 ∧ RowQ mm x.2.2 x.2.1) (fun x => A.length - x.1) (0, ([], 0)) (by kernel_rfl) ⟨Nat.zero_le _, rfl, Nat.le_refl _, fun h => absurd rfl h⟩ ?_
  rintro ⟨i, o, q⟩ mm ⟨h1, h2, h3, h4⟩
  simp only at h1 h2 h3 h4
  rcases Nat.lt_or_ge i A.length with hi | hi
  · have c1 : decide (i < A.length) = true := by simpa using hi
    have w1 := add1N i (by omega)
    have hwi := hwA _ (List.getElem_mem hi)
    have htk : A.take (i + 1) = A.take i ++ [A[i]] := (List.take_append_getElem hi).symm
    simp -implicitDefEqProofs only [sims.1, fx.1, keeps.1, tick_on, calleeK, extractV, oneV, faddrK, nonnil, b_shr, b_shl, fieldK, Nat.reduceAdd, Nat.reduceMul, Nat.reduceSub, Nat.reduceEqDiff, Nat.reduceLT, Nat.reduceLeDiff, Nat.reduceBEq, Nat.reduceBNe, reduceIte, Int.reduceEq, Int.reduceLT, Int.reduceLE, Int.reduceNe, Int.reduceToNat, ltNat, c1, len_rs]
    refine W_loopM (fun j : Nat => [(10, .int .i64 (j : Int)), (9, .bool ((B.take j).any (pl A[i]))), (8, .int .i64 (i : Int)), (5, rsV A), (6, rsV B), (7, mV o.length q)])
      (fun j m2 => j ≤ B.length ∧ m2 = mm) (fun j => B.length - j) 0 (by kernel_rfl) ⟨Nat.zero_le _, rfl⟩ ?_
    rintro j m2 ⟨g1, rfl⟩
    rcases Nat.lt_or_ge j B.length with hj | hj
    · have c2 : decide (j < B.length) = true := by simpa using hj
      have w2 := add1N j (by omega)
      have hst : (B.take (j + 1)).any (pl A[i]) = ((B.take j).any (pl A[i]) || pl A[i] B[j]) := by
        rw [← List.take_append_getElem hj, List.any_append]
        simp
      have a20 := ans20 A[i] B[j] hwi (hwB _ (List.getElem_mem hj))
      simp -implicitDefEqProofs only [sims.1, fx.1, keeps.1, tick_on, calleeK, extractV, oneV, faddrK, nonnil, b_shr, b_shl, fieldK, Nat.reduceAdd, Nat.reduceMul, Nat.reduceSub, Nat.reduceEqDiff, Nat.reduceLT, Nat.reduceLeDiff, Nat.reduceBEq, Nat.reduceBNe, reduceIte, Int.reduceEq, Int.reduceLT, Int.reduceLE, Int.reduceNe, Int.reduceToNat, len_rs, ltNat, c2]
      refine w_quiet ?_
      cases e : (B.take j).any (pl A[i])
      · rw [e, Bool.false_or] at hst
        simp -implicitDefEqProofs only [sims.1, fx.1, keeps.1, tick_on, calleeK, extractV, oneV, faddrK, nonnil, b_shr, b_shl, fieldK, Nat.reduceAdd, Nat.reduceMul, Nat.reduceSub, Nat.reduceEqDiff, Nat.reduceLT, Nat.reduceLeDiff, Nat.reduceBEq, Nat.reduceBNe, reduceIte, Int.reduceEq, Int.reduceLT, Int.reduceLE, Int.reduceNe, Int.reduceToNat, ia_rs hi, ia_rs hj, pR]
        refine callQ_ans a20 en20 (nfs_ru2 _ _) rfl ?_
        simp -implicitDefEqProofs only [sims.1, fx.1, keeps.1, tick_on, calleeK, extractV, oneV, faddrK, nonnil, b_shr, b_shl, fieldK, Nat.reduceAdd, Nat.reduceMul, Nat.reduceSub, Nat.reduceEqDiff, Nat.reduceLT, Nat.reduceLeDiff, Nat.reduceBEq, Nat.reduceBNe, reduceIte, Int.reduceEq, Int.reduceLT, Int.reduceLE, Int.reduceNe, Int.reduceToNat, w2]
        exact ⟨j + 1, by rw [hst]; kernel_rfl, ⟨hj, by trivial⟩, by omega⟩
      · rw [e, Bool.true_or] at hst
        simp -implicitDefEqProofs only [sims.1, fx.1, keeps.1, tick_on, calleeK, extractV, oneV, faddrK, nonnil, b_shr, b_shl, fieldK, Nat.reduceAdd, Nat.reduceMul, Nat.reduceSub, Nat.reduceEqDiff, Nat.reduceLT, Nat.reduceLeDiff, Nat.reduceBEq, Nat.reduceBNe, reduceIte, Int.reduceEq, Int.reduceLT, Int.reduceLE, Int.reduceNe, Int.reduceToNat, w2]
        exact ⟨j + 1, by rw [hst]; kernel_rfl, ⟨hj, by trivial⟩, by omega⟩
    · have c2 : decide (j < B.length) = false := by simpa using hj
      rw [List.take_of_length_le hj]
      simp -implicitDefEqProofs only [sims.1, fx.1, keeps.1, tick_on, calleeK, extractV, oneV, faddrK, nonnil, b_shr, b_shl, fieldK, Nat.reduceAdd, Nat.reduceMul, Nat.reduceSub, Nat.reduceEqDiff, Nat.reduceLT, Nat.reduceLeDiff, Nat.reduceBEq, Nat.reduceBNe, reduceIte, Int.reduceEq, Int.reduceLT, Int.reduceLE, Int.reduceNe, Int.reduceToNat, len_rs, ltNat, c2]
      cases e : B.any (pl A[i])
      · obtain ⟨M2, a1, a2, a3, a4⟩ := app_mq ⟨3, plR A[i]⟩ h4 (by omega)
        have bs := bsQ ⟨3, plR A[i]⟩ m2
        have hvq : ∀ n ∈ nms (mV o.length q), n < m2.length := fun n hn => by
          obtain ⟨g, rfl⟩ := nms_mV hn
          exact (List.getElem?_eq_some_iff.1 (h4 (fun e => g (by rw [e]; rfl)))).1
        have hnf : nfs [V.agg (meQ ⟨3, plR A[i]⟩)] = true := nfs_cons (nfs_meQ _) rfl
        simp -implicitDefEqProofs only [sims.1, fx.1, keeps.1, tick_on, calleeK, extractV, oneV, faddrK, nonnil, b_shr, b_shl, fieldK, Nat.reduceAdd, Nat.reduceMul, Nat.reduceSub, Nat.reduceEqDiff, Nat.reduceLT, Nat.reduceLeDiff, Nat.reduceBEq, Nat.reduceBNe, reduceIte, Int.reduceEq, Int.reduceLT, Int.reduceLE, Int.reduceNe, Int.reduceToNat]
        refine w_noisy ?_
        simp -implicitDefEqProofs only [sims.1, fx.1, keeps.1, tick_on, calleeK, extractV, oneV, faddrK, nonnil, b_shr, b_shl, fieldK, Nat.reduceAdd, Nat.reduceMul, Nat.reduceSub, Nat.reduceEqDiff, Nat.reduceLT, Nat.reduceLeDiff, Nat.reduceBEq, Nat.reduceBNe, reduceIte, Int.reduceEq, Int.reduceLT, Int.reduceLE, Int.reduceNe, Int.reduceToNat, ia_rs hi, d0R, d1R, lenR, b36, b45q, bs, a1, w1, hnf, Bool.true_or, Bool.true_and]
        iterate 8
          first
          | (refine orderP_of (accB_lt (by intro n hn; first | (simp [nms, mnm] at hn; done) | (simp [nms, mnm] at hn; rcases hn with hn | hn <;> first | (have := hvq n hn; simp; omega) | (simp; omega)) | (simp [nms, mnm] at hn; have := hvq n hn; simp; omega) | (simp [nms, mnm] at hn ⊢; omega)) (by kernel_rfl)) ?_
             simp -implicitDefEqProofs only [sims.1, fx.1, keeps.1, tick_on, calleeK, extractV, oneV, faddrK, nonnil, b_shr, b_shl, fieldK, Nat.reduceAdd, Nat.reduceMul, Nat.reduceSub, Nat.reduceEqDiff, Nat.reduceLT, Nat.reduceLeDiff, Nat.reduceBEq, Nat.reduceBNe, reduceIte, Int.reduceEq, Int.reduceLT, Int.reduceLE, Int.reduceNe, Int.reduceToNat, ia_rs hi, d0R, d1R, lenR, b36, b45q, bs, a1, w1, hnf, Bool.true_or, Bool.true_and])
          | skip
        refine ⟨(i + 1, (o ++ [⟨3, plR A[i]⟩], m2.length + 1)), ?_, ⟨hi, ?_, by simp; omega, a3⟩, by simp only; omega⟩
        · simp only [List.length_append, List.length_cons, List.length_nil]
          kernel_rfl
        · rw [htk, h2, List.filter_append, List.map_append]
          simp [e]
      · simp -implicitDefEqProofs only [sims.1, fx.1, keeps.1, tick_on, calleeK, extractV, oneV, faddrK, nonnil, b_shr, b_shl, fieldK, Nat.reduceAdd, Nat.reduceMul, Nat.reduceSub, Nat.reduceEqDiff, Nat.reduceLT, Nat.reduceLeDiff, Nat.reduceBEq, Nat.reduceBNe, reduceIte, Int.reduceEq, Int.reduceLT, Int.reduceLE, Int.reduceNe, Int.reduceToNat, w1]
        refine ⟨(i + 1, (o, q)), by kernel_rfl, ⟨hi, ?_, by simp only; omega, h4⟩, by simp only; omega⟩
        rw [htk, h2, List.filter_append, List.map_append]
        simp [e]
  · have c1 : decide (i < A.length) = false := by simpa using hi
    obtain rfl : i = A.length := by omega
    rw [List.take_length] at h2
    simp -implicitDefEqProofs only [sims.1, fx.1, keeps.1, tick_on, calleeK, extractV, oneV, faddrK, nonnil, b_shr, b_shl, fieldK, Nat.reduceAdd, Nat.reduceMul, Nat.reduceSub, Nat.reduceEqDiff, Nat.reduceLT, Nat.reduceLeDiff, Nat.reduceBEq, Nat.reduceBNe, reduceIte, Int.reduceEq, Int.reduceLT, Int.reduceLE, Int.reduceNe, Int.reduceToNat, ltNat, c1, evn, len_rs]
    rw [← h2]
    have hoq : o ≠ [] → q < mm.length := fun hn => (List.getElem?_eq_some_iff.1 (h4 hn)).1
    have hol : o.length ≤ 150 := by omega
    clear h1 h2 h3 hi c1
    refine W_loopM (fun x : Nat × (List Ru × Nat) => [(5, rsV A), (6, rsV B), (12, .int .i64 (x.1 : Int)), (11, rV (ssort ltD x.2.1).length x.2.2), (7, mV o.length q)])
      (fun x m3 => x.1 ≤ B.length ∧ x.2.1 = (B.take x.1).filter (fun r => !A.any (alk r)) ∧ x.2.1.length ≤ x.1 ∧ RowR m3 x.2.2 (ssort ltD x.2.1) ∧ mm.length ≤ x.2.2 ∧ Kp mm m3) (fun x => B.length - x.1) (0, ([], mm.length)) (by kernel_rfl) ⟨Nat.zero_le _, rfl, Nat.le_refl _, fun h => absurd rfl h, Nat.le_refl _, Kp.refl _⟩ ?_
    rintro ⟨i, l, qs⟩ m3 ⟨i1, i2, i3, i4, i5, i6⟩
    simp only at i1 i2 i3 i4 i5 i6
    rcases Nat.lt_or_ge i B.length with hi | hi
    · have c1 : decide (i < B.length) = true := by simpa using hi
      have w1 := add1N i (by omega)
      have hwi := hwB _ (List.getElem_mem hi)
      have htk : B.take (i + 1) = B.take i ++ [B[i]] := (List.take_append_getElem hi).symm
      simp -implicitDefEqProofs only [sims.1, fx.1, keeps.1, tick_on, calleeK, extractV, oneV, faddrK, nonnil, b_shr, b_shl, fieldK, Nat.reduceAdd, Nat.reduceMul, Nat.reduceSub, Nat.reduceEqDiff, Nat.reduceLT, Nat.reduceLeDiff, Nat.reduceBEq, Nat.reduceBNe, reduceIte, Int.reduceEq, Int.reduceLT, Int.reduceLE, Int.reduceNe, Int.reduceToNat, ltNat, c1, len_rs]
      refine W_loopM (fun j : Nat => [(14, .int .i64 (j : Int)), (13, .bool ((A.take j).any (alk B[i]))), (11, rV (ssort ltD l).length qs), (12, .int .i64 (i : Int)), (5, rsV A), (6, rsV B), (7, mV o.length q)])
        (fun j m2 => j ≤ A.length ∧ m2 = m3) (fun j => A.length - j) 0 (by kernel_rfl) ⟨Nat.zero_le _, rfl⟩ ?_
      rintro j m2 ⟨g1, rfl⟩
      rcases Nat.lt_or_ge j A.length with hj | hj
      · have c2 : decide (j < A.length) = true := by simpa using hj
        have w2 := add1N j (by omega)
        have hst : (A.take (j + 1)).any (alk B[i]) = ((A.take j).any (alk B[i]) || alk B[i] A[j]) := by
          rw [← List.take_append_getElem hj, List.any_append]
          simp
        have a21 := ans21 B[i] A[j] hwi (hwA _ (List.getElem_mem hj))
        simp -implicitDefEqProofs only [sims.1, fx.1, keeps.1, tick_on, calleeK, extractV, oneV, faddrK, nonnil, b_shr, b_shl, fieldK, Nat.reduceAdd, Nat.reduceMul, Nat.reduceSub, Nat.reduceEqDiff, Nat.reduceLT, Nat.reduceLeDiff, Nat.reduceBEq, Nat.reduceBNe, reduceIte, Int.reduceEq, Int.reduceLT, Int.reduceLE, Int.reduceNe, Int.reduceToNat, len_rs, ltNat, c2]
        refine w_quiet ?_
        cases e : (A.take j).any (alk B[i])
        · rw [e, Bool.false_or] at hst
          simp -implicitDefEqProofs only [sims.1, fx.1, keeps.1, tick_on, calleeK, extractV, oneV, faddrK, nonnil, b_shr, b_shl, fieldK, Nat.reduceAdd, Nat.reduceMul, Nat.reduceSub, Nat.reduceEqDiff, Nat.reduceLT, Nat.reduceLeDiff, Nat.reduceBEq, Nat.reduceBNe, reduceIte, Int.reduceEq, Int.reduceLT, Int.reduceLE, Int.reduceNe, Int.reduceToNat, ia_rs hi, ia_rs hj, pR]
          refine callQ_ans a21 en21 (nfs_ru2 _ _) rfl ?_
          simp -implicitDefEqProofs only [sims.1, fx.1, keeps.1, tick_on, calleeK, extractV, oneV, faddrK, nonnil, b_shr, b_shl, fieldK, Nat.reduceAdd, Nat.reduceMul, Nat.reduceSub, Nat.reduceEqDiff, Nat.reduceLT, Nat.reduceLeDiff, Nat.reduceBEq, Nat.reduceBNe, reduceIte, Int.reduceEq, Int.reduceLT, Int.reduceLE, Int.reduceNe, Int.reduceToNat, w2]
          exact ⟨j + 1, by rw [hst]; kernel_rfl, ⟨hj, by trivial⟩, by omega⟩
        · rw [e, Bool.true_or] at hst
          simp -implicitDefEqProofs only [sims.1, fx.1, keeps.1, tick_on, calleeK, extractV, oneV, faddrK, nonnil, b_shr, b_shl, fieldK, Nat.reduceAdd, Nat.reduceMul, Nat.reduceSub, Nat.reduceEqDiff, Nat.reduceLT, Nat.reduceLeDiff, Nat.reduceBEq, Nat.reduceBNe, reduceIte, Int.reduceEq, Int.reduceLT, Int.reduceLE, Int.reduceNe, Int.reduceToNat, w2]
          exact ⟨j + 1, by rw [hst]; kernel_rfl, ⟨hj, by trivial⟩, by omega⟩
      · have c2 : decide (j < A.length) = false := by simpa using hj
        rw [List.take_of_length_le hj]
        simp -implicitDefEqProofs only [sims.1, fx.1, keeps.1, tick_on, calleeK, extractV, oneV, faddrK, nonnil, b_shr, b_shl, fieldK, Nat.reduceAdd, Nat.reduceMul, Nat.reduceSub, Nat.reduceEqDiff, Nat.reduceLT, Nat.reduceLeDiff, Nat.reduceBEq, Nat.reduceBNe, reduceIte, Int.reduceEq, Int.reduceLT, Int.reduceLE, Int.reduceNe, Int.reduceToNat, len_rs, ltNat, c2]
        cases e : A.any (alk B[i])
        · have hsl : (ssort ltD l).length = l.length := ssort_len _
          simp -implicitDefEqProofs only [sims.1, fx.1, keeps.1, tick_on, calleeK, extractV, oneV, faddrK, nonnil, b_shr, b_shl, fieldK, Nat.reduceAdd, Nat.reduceMul, Nat.reduceSub, Nat.reduceEqDiff, Nat.reduceLT, Nat.reduceLeDiff, Nat.reduceBEq, Nat.reduceBNe, reduceIte, Int.reduceEq, Int.reduceLT, Int.reduceLE, Int.reduceNe, Int.reduceToNat, rV_len]
          refine W_loopM (fun k : Nat => [(11, rV (ssort ltD l).length qs), (15, .int .i64 (k : Int)), (12, .int .i64 (i : Int)), (5, rsV A), (6, rsV B), (7, mV o.length q)])
            (fun k m4 => k ≤ (ssort ltD l).length ∧ (∀ y ∈ (ssort ltD l).drop k, ltD B[i] y = true) ∧ m4 = m2) (fun k => k) (ssort ltD l).length (by kernel_rfl) ⟨Nat.le_refl _, (by intro y hy; rw [List.drop_length] at hy; cases hy), rfl⟩ ?_
          rintro k m4 ⟨k1, k2, rfl⟩
          have gt0 : decide ((0 : Int) < (k : Int)) = decide (0 < k) := by rw [Bool.eq_iff_iff]; simp
          -- what is laid behind the loop
          have fin : (k = 0 ∨ ∃ h : k - 1 < (ssort ltD l).length, ltD B[i] ((ssort ltD l)[k - 1]) = false) → ∃ M1 q1 M2 q2 M3 q3,
              appendA Try.prog 22 22 .nils (hdV (ssort ltD l).length qs k) m4 = some (rV ((ssort ltD l).take k).length q1, M1) ∧
              appendA Try.prog 22 22 (rV ((ssort ltD l).take k).length q1) (.sl 25 M1.length 0 1) (M1 ++ [.row 36 25 [ruC B[i]]]) = some (rV ((ssort ltD l).take k ++ [B[i]]).length q2, M2) ∧
              appendA Try.prog 22 22 (rV ((ssort ltD l).take k ++ [B[i]]).length q2) (tlV (ssort ltD l).length qs k) M2 = some (rV (ssort ltD (l ++ [B[i]])).length q3, M3) ∧
              (i + 1 ≤ B.length ∧ l ++ [B[i]] = (B.take (i + 1)).filter (fun r => !A.any (alk r)) ∧ (l ++ [B[i]]).length ≤ i + 1 ∧ RowR M3 q3 (ssort ltD (l ++ [B[i]])) ∧ mm.length ≤ q3 ∧ Kp mm M3) := by
            intro hend
            have hins := ins_at k1 k2 hend
            have hb := i6.1
            obtain ⟨M1, q1, a1, a2, a3, a4, a5⟩ := app_rr (mm := m4) (q := 0) (l := []) (fun h => absurd rfl h) (cont_hd i4 k1) (by simp; omega)
            rw [List.nil_append] at a1 a2 a5
            have hR1 : RowR (M1 ++ [.row 36 25 [ruC B[i]]]) q1 ((ssort ltD l).take k) := fun hn => by
              have := a2 hn
              rw [List.getElem?_append_left (List.getElem?_eq_some_iff.1 this).1]; exact this
            obtain ⟨M2, q2, b1, b2, b3, b4, b5⟩ := app_rr hR1 (cont_one (q := M1.length) (r := B[i]) (by simp)) (by simp; omega)
            simp only [List.length_append, List.length_cons, List.length_nil] at b3 b4 b5
            have hlow : ∀ n, n < m4.length → M2[n]? = m4[n]? := fun n hn => by
              rw [b4 n (by omega) (by
                by_cases hz : (ssort ltD l).take k = []
                · exact .inr hz
                · exact .inl (by have := a5 hz; omega)), List.getElem?_append_left (by omega)]
              exact a4 n hn (.inr rfl)
            have hRs : RowR M2 qs (ssort ltD l) := fun hn => by
              have := i4 hn
              rw [hlow _ (List.getElem?_eq_some_iff.1 this).1]; exact this
            obtain ⟨M3, q3, d1, d2, d3, d4, d5⟩ := app_rr b2 (cont_tl hRs k1) (by simp; omega)
            have he : (ssort ltD l).take k ++ [B[i]] ++ (ssort ltD l).drop k = ssort ltD (l ++ [B[i]]) := by rw [hins]; simp
            rw [he] at d1 d2 d5
            have hq2 := b5 (by simp)
            refine ⟨M1, q1, M2, q2, M3, q3, a1, b1, d1, hi, ?_, by simp; omega, d2, ?_, by omega, fun n hn => ?_⟩
            · rw [htk, i2, List.filter_append]
              simp [e]
            · have := d5 (by rw [hins]; simp)
              omega
            · rw [d4 n (by omega) (.inl (by omega)), hlow n (by omega)]
              exact i6.2 n hn
          have done : (k = 0 ∨ ∃ h : k - 1 < (ssort ltD l).length, ltD B[i] ((ssort ltD l)[k - 1]) = false) → True := fun _ => trivial
          rcases Nat.eq_zero_or_pos k with hk0 | hk0
          · have c3 : decide (0 < k) = false := by simp; omega
            obtain ⟨M1, q1, M2, q2, M3, q3, a1, b1, d1, hI⟩ := fin (.inl hk0)
            have bsr := bs22 B[i] M1
            simp -implicitDefEqProofs only [sims.1, fx.1, keeps.1, tick_on, calleeK, extractV, oneV, faddrK, nonnil, b_shr, b_shl, fieldK, Nat.reduceAdd, Nat.reduceMul, Nat.reduceSub, Nat.reduceEqDiff, Nat.reduceLT, Nat.reduceLeDiff, Nat.reduceBEq, Nat.reduceBNe, reduceIte, Int.reduceEq, Int.reduceLT, Int.reduceLE, Int.reduceNe, Int.reduceToNat]
            refine w_quiet ?_
            simp -implicitDefEqProofs only [sims.1, fx.1, keeps.1, tick_on, calleeK, extractV, oneV, faddrK, nonnil, b_shr, b_shl, fieldK, Nat.reduceAdd, Nat.reduceMul, Nat.reduceSub, Nat.reduceEqDiff, Nat.reduceLT, Nat.reduceLeDiff, Nat.reduceBEq, Nat.reduceBNe, reduceIte, Int.reduceEq, Int.reduceLT, Int.reduceLE, Int.reduceNe, Int.reduceToNat, gt0, c3]
            simp -implicitDefEqProofs only [sims.1, fx.1, keeps.1, tick_on, calleeK, extractV, oneV, faddrK, nonnil, b_shr, b_shl, fieldK, Nat.reduceAdd, Nat.reduceMul, Nat.reduceSub, Nat.reduceEqDiff, Nat.reduceLT, Nat.reduceLeDiff, Nat.reduceBEq, Nat.reduceBNe, reduceIte, Int.reduceEq, Int.reduceLT, Int.reduceLE, Int.reduceNe, Int.reduceToNat, sl_hd k1, sl_tl k1, evn, a1, ia_rs hi, pR, bsr, b1, d1, w1]
            trace_state
            exact ⟨(i + 1, (l ++ [B[i]], q3)), by kernel_rfl, hI, by simp only; omega⟩
          · have c3 : decide (0 < k) = true := by simpa using hk0
            have hk1 : k - 1 < (ssort ltD l).length := by omega
            have w3 := sub1N k hk0 (by omega)
            have ia : ∀ {kk : IntKind}, iaddrS 25 (rV (ssort ltD l).length qs) (.int kk ((k - 1 : Nat) : Int)) = some (.ep 25 qs (k - 1) 0) := by
              rw [rV_pos (by omega)]
              exact row_ia hk1
            have hrow := i4 (List.ne_nil_of_length_pos (by omega))
            have l1 : loadK false 1 m4 (.ep 25 qs (k - 1) 0) = some (.int .i64 (ssort ltD l)[k - 1].rank) := by
              rw [loadK_ep, hrow]
              simp [hk1]
              rfl
            have hlt : decide ((ssort ltD l)[k - 1].rank < B[i].rank) = ltD B[i] (ssort ltD l)[k - 1] := rfl
            cases e4 : ltD B[i] (ssort ltD l)[k - 1]
            · obtain ⟨M1, q1, M2, q2, M3, q3, a1, b1, d1, hI⟩ := fin (.inr ⟨hk1, e4⟩)
              have bsr := bs22 B[i] M1
              simp -implicitDefEqProofs only [sims.1, fx.1, keeps.1, tick_on, calleeK, extractV, oneV, faddrK, nonnil, b_shr, b_shl, fieldK, Nat.reduceAdd, Nat.reduceMul, Nat.reduceSub, Nat.reduceEqDiff, Nat.reduceLT, Nat.reduceLeDiff, Nat.reduceBEq, Nat.reduceBNe, reduceIte, Int.reduceEq, Int.reduceLT, Int.reduceLE, Int.reduceNe, Int.reduceToNat]
              refine w_quiet ?_
              simp -implicitDefEqProofs only [sims.1, fx.1, keeps.1, tick_on, calleeK, extractV, oneV, faddrK, nonnil, b_shr, b_shl, fieldK, Nat.reduceAdd, Nat.reduceMul, Nat.reduceSub, Nat.reduceEqDiff, Nat.reduceLT, Nat.reduceLeDiff, Nat.reduceBEq, Nat.reduceBNe, reduceIte, Int.reduceEq, Int.reduceLT, Int.reduceLE, Int.reduceNe, Int.reduceToNat, gt0, c3, w3, ia, l1, ia_rs hi, d0R, lenR, hlt, e4]
              simp -implicitDefEqProofs only [sims.1, fx.1, keeps.1, tick_on, calleeK, extractV, oneV, faddrK, nonnil, b_shr, b_shl, fieldK, Nat.reduceAdd, Nat.reduceMul, Nat.reduceSub, Nat.reduceEqDiff, Nat.reduceLT, Nat.reduceLeDiff, Nat.reduceBEq, Nat.reduceBNe, reduceIte, Int.reduceEq, Int.reduceLT, Int.reduceLE, Int.reduceNe, Int.reduceToNat, sl_hd k1, sl_tl k1, evn, a1, ia_rs hi, pR, bsr, b1, d1, w1]
              exact ⟨(i + 1, (l ++ [B[i]], q3)), by kernel_rfl, hI, by simp only; omega⟩
            · simp -implicitDefEqProofs only [sims.1, fx.1, keeps.1, tick_on, calleeK, extractV, oneV, faddrK, nonnil, b_shr, b_shl, fieldK, Nat.reduceAdd, Nat.reduceMul, Nat.reduceSub, Nat.reduceEqDiff, Nat.reduceLT, Nat.reduceLeDiff, Nat.reduceBEq, Nat.reduceBNe, reduceIte, Int.reduceEq, Int.reduceLT, Int.reduceLE, Int.reduceNe, Int.reduceToNat]
              refine w_quiet ?_
              simp -implicitDefEqProofs only [sims.1, fx.1, keeps.1, tick_on, calleeK, extractV, oneV, faddrK, nonnil, b_shr, b_shl, fieldK, Nat.reduceAdd, Nat.reduceMul, Nat.reduceSub, Nat.reduceEqDiff, Nat.reduceLT, Nat.reduceLeDiff, Nat.reduceBEq, Nat.reduceBNe, reduceIte, Int.reduceEq, Int.reduceLT, Int.reduceLE, Int.reduceNe, Int.reduceToNat, gt0, c3, w3, ia, l1, ia_rs hi, d0R, lenR, hlt, e4]
              trace_state
              refine ⟨k - 1, by kernel_rfl, ⟨by omega, fun y hy => ?_, by trivial⟩, by omega⟩
              rw [List.drop_eq_getElem_cons hk1, show k - 1 + 1 = k by omega] at hy
              rcases List.mem_cons.1 hy with rfl | hy
              · exact e4
              · exact k2 y hy
        · simp -implicitDefEqProofs only [sims.1, fx.1, keeps.1, tick_on, calleeK, extractV, oneV, faddrK, nonnil, b_shr, b_shl, fieldK, Nat.reduceAdd, Nat.reduceMul, Nat.reduceSub, Nat.reduceEqDiff, Nat.reduceLT, Nat.reduceLeDiff, Nat.reduceBEq, Nat.reduceBNe, reduceIte, Int.reduceEq, Int.reduceLT, Int.reduceLE, Int.reduceNe, Int.reduceToNat, w1]
          refine ⟨(i + 1, (l, qs)), by kernel_rfl, ⟨hi, ?_, by simp only; omega, i4, i5, i6⟩, by simp only; omega⟩
          rw [htk, i2, List.filter_append]
          simp [e]
    · have c1 : decide (i < B.length) = false := by simpa using hi
      obtain rfl : i = B.length := by omega
      rw [List.take_length] at i2
      simp -implicitDefEqProofs only [sims.1, fx.1, keeps.1, tick_on, calleeK, extractV, oneV, faddrK, nonnil, b_shr, b_shl, fieldK, Nat.reduceAdd, Nat.reduceMul, Nat.reduceSub, Nat.reduceEqDiff, Nat.reduceLT, Nat.reduceLeDiff, Nat.reduceBEq, Nat.reduceBNe, reduceIte, Int.reduceEq, Int.reduceLT, Int.reduceLE, Int.reduceNe, Int.reduceToNat, ltNat, c1, evn, len_rs, rV_len]
      rw [← i2]
      have hsl : (ssort ltD l).length = l.length := ssort_len _
      have hSl : (ssort ltD l).length ≤ 150 := by omega
      have hqq : o ≠ [] → q ≠ qs := fun hn => by have := hoq hn; omega
      replace h4 : RowQ m3 q o := fun hn => by rw [i6.2 _ (hoq hn)]; exact h4 hn
      clear hsl i1 i2 i3 i5 i6 hoq c1 hi
      generalize ssort ltD l = S at i4 hSl ⊢
      refine W_loopM (fun x : Nat × (List Me × Nat) => [(11, rV S.length qs), (17, .int .i64 (x.1 : Int)), (7, mV x.2.1.length x.2.2)])
        (fun x m6 => x.1 ≤ S.length ∧ x.2.1 = o ++ (S.take x.1).map (fun r => (⟨0, r⟩ : Me)) ∧ RowQ m6 x.2.2 x.2.1 ∧ RowR m6 qs S ∧ (x.2.1 ≠ [] → x.2.2 ≠ qs)) (fun x => S.length - x.1) (0, (o, q)) (by kernel_rfl) ⟨Nat.zero_le _, by simp, h4, i4, hqq⟩ ?_
      rintro ⟨i, o3, q3⟩ m6 ⟨j1, j2, j3, j4, j5⟩
      simp only at j1 j2 j3 j4 j5
      have hol3 : o3.length = o.length + i := by rw [j2]; simp; omega
      rcases Nat.lt_or_ge i S.length with hi | hi
      · have c1 : decide (i < S.length) = true := by simpa using hi
        have w1 := add1N i (by omega)
        have htk : S.take (i + 1) = S.take i ++ [S[i]] := (List.take_append_getElem hi).symm
        have ia : ∀ {kk : IntKind}, iaddrS 25 (rV S.length qs) (.int kk (i : Int)) = some (.ep 25 qs i 0) := by
          rw [rV_pos (by omega)]
          exact row_ia hi
        have hrow := j4 (List.ne_nil_of_length_pos (by omega))
        have hql := (List.getElem?_eq_some_iff.1 hrow).1
        have l1 : loadK true 25 m6 (.ep 25 qs i 0) = some (ruV S[i]) := by
          rw [loadK_ep, hrow]
          simp [hi, pR]
        have bs := bsQ ⟨0, S[i]⟩ m6
        obtain ⟨M9, a1, a2, a3, a4⟩ := app_mq ⟨0, S[i]⟩ j3 (by omega)
        simp -implicitDefEqProofs only [sims.1, fx.1, keeps.1, tick_on, calleeK, extractV, oneV, faddrK, nonnil, b_shr, b_shl, fieldK, Nat.reduceAdd, Nat.reduceMul, Nat.reduceSub, Nat.reduceEqDiff, Nat.reduceLT, Nat.reduceLeDiff, Nat.reduceBEq, Nat.reduceBNe, reduceIte, Int.reduceEq, Int.reduceLT, Int.reduceLE, Int.reduceNe, Int.reduceToNat, ltNat, c1, rV_len, ia, l1, b45s, bs, a1, w1]
        refine ⟨(i + 1, (o3 ++ [⟨0, S[i]⟩], m6.length + 1)), ?_, ⟨hi, ?_, a3, fun hn => ?_, fun _ => ?_⟩, (show S.length - (i + 1) < S.length - i by omega)⟩
        · simp only [List.length_append, List.length_cons, List.length_nil]
          kernel_rfl
        · rw [htk, j2, List.map_append, List.append_assoc]
          rfl
        · rw [a4 qs (by omega) (by
            by_cases hz : o3 = []
            · exact .inr hz
            · exact .inl (Ne.symm (j5 hz)))]
          exact hrow
        · simp only
          omega
      · have c1 : decide (i < S.length) = false := by simpa using hi
        obtain rfl : i = S.length := by omega
        rw [List.take_length] at j2
        simp -implicitDefEqProofs only [sims.1, fx.1, keeps.1, tick_on, calleeK, extractV, oneV, faddrK, nonnil, b_shr, b_shl, fieldK, Nat.reduceAdd, Nat.reduceMul, Nat.reduceSub, Nat.reduceEqDiff, Nat.reduceLT, Nat.reduceLeDiff, Nat.reduceBEq, Nat.reduceBNe, reduceIte, Int.reduceEq, Int.reduceLT, Int.reduceLE, Int.reduceNe, Int.reduceToNat, ltNat, c1, rV_len]
        exact ⟨m6, q3, by rw [j2], by rw [← j2]; exact j3⟩
end Go.Proofs.Ytggdnepfahknbaa
