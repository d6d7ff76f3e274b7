/- Lists of rules: which count, whether they are great; lists of messages compared. No condition. -/
import Derived.Test.YtggdnepfahknbaaYb
namespace Go.Proofs.Ytggdnepfahknbaa
open Go Ab
set_option linter.unusedSimpArgs false
set_option linter.unusedVariables false
set_option maxRecDepth 20000

theorem zE_of {e s : Nat} (h : ((zeroE Try.prog e).map fun x => (x.2.1, Nat.ble x.2.2 1000)) = some (s, true)) : ∃ z b, zeroE Try.prog e = some (z, s, b) ∧ b ≤ 1000 := by
  cases e1 : zeroE Try.prog e with
  | none => rw [e1] at h; cases h
  | some x =>
    obtain ⟨z, s', b⟩ := x
    rw [e1] at h
    simp only [Option.map_some, Option.some.injEq, Prod.mk.injEq] at h
    exact ⟨z, b, by rw [h.1], Nat.le_of_ble_eq_true h.2⟩
theorem ap_nil1 {t e s ty : Nat} (ht : Try.prog.underlying t = some (.slice e)) (hz : ((zeroE Try.prog e).map fun x => (x.2.1, Nat.ble x.2.2 1000)) = some (s, true)) (hu : isSliceT Try.prog t = true) {m : Mem} {q : Nat} {x : List V} (hm : m[q]? = some (.row ty s [x])) :
    appendA Try.prog t t .nils (.sl s q 0 1) m = some (.sl s m.length 0 1, m ++ [.row e s [x]]) := by
  obtain ⟨z, b, h1, h2⟩ := zE_of hz
  exact append_nil ht h1 hu (cont_row hm rfl) (by simp) (by simp only [List.length_cons, List.length_nil]; omega) (by simp only [List.length_cons, List.length_nil]; omega)
theorem ap_sl1 {t e s ty : Nat} (ht : Try.prog.underlying t = some (.slice e)) (hz : ((zeroE Try.prog e).map fun x => (x.2.1, Nat.ble x.2.2 1000)) = some (s, true)) (hu : isSliceT Try.prog t = true) {m : Mem} {n q : Nat} {es : List (List V)} {x : List V} (hm : m[q]? = some (.row ty s [x])) (hn : m[n]? = some (.row e s es)) (hl : es.length ≤ 200000) :
    appendA Try.prog t t (.sl s n 0 es.length) (.sl s q 0 1) m = some (.sl s m.length 0 (es.length + 1), m.set n .dead ++ [.row e s (es ++ [x])]) := by
  obtain ⟨z, b, h1, h2⟩ := zE_of hz
  have hb : (es.length + 1) * b ≤ 200001 * 1000 := Nat.mul_le_mul (by omega) h2
  have hc : contV m s (.sl s q 0 1) = some [x] := cont_row hm rfl
  have := append_sl (len := es.length) ht h1 hu hc hn rfl (by simp only [List.length_cons, List.length_nil, Nat.zero_add]; omega) (by simp only [List.length_cons, List.length_nil]; omega)
  rw [this]
  simp

/-- One element put behind a list that may be none. -/
theorem app_any {t e s : Nat} (ht : Try.prog.underlying t = some (.slice e)) (hz : ((zeroE Try.prog e).map fun x => (x.2.1, Nat.ble x.2.2 1000)) = some (s, true)) (hu : isSliceT Try.prog t = true) {mm : Mem} {q : Nat} {l : List (List V)} {v : V} (x : List V)
    (hv : (l = [] ∧ v = .nils) ∨ (l ≠ [] ∧ v = .sl s q 0 l.length ∧ mm[q]? = some (.row e s l))) (hl : l.length ≤ 200000) :
    ∃ mm', appendA Try.prog t t v (.sl s mm.length 0 1) (mm ++ [.row e s [x]]) = some (.sl s (mm.length + 1) 0 (l.length + 1), mm') ∧ mm'.length = mm.length + 2 ∧ mm'[mm.length + 1]? = some (.row e s (l ++ [x])) ∧
      ∀ k, k < mm.length → (k ≠ q ∨ l = []) → mm'[k]? = mm[k]? := by
  have hm : (mm ++ [B.row e s [x]])[mm.length]? = some (B.row e s [x]) := by simp
  rcases hv with ⟨rfl, rfl⟩ | ⟨hl0, rfl, hq⟩
  · refine ⟨mm ++ [.row e s [x]] ++ [.row e s [x]], ?_, by simp, ?_, fun k hk _ => ?_⟩
    · rw [ap_nil1 ht hz hu hm]
      simp
    · have : (mm ++ [B.row e s [x]]).length = mm.length + 1 := by simp
      rw [← this]
      simp
    · rw [List.append_assoc, List.getElem?_append_left hk]
  · have hqlt := (List.getElem?_eq_some_iff.1 hq).1
    have hn : (mm ++ [B.row e s [x]])[q]? = some (.row e s l) := by rw [List.getElem?_append_left hqlt]; exact hq
    refine ⟨(mm ++ [B.row e s [x]]).set q .dead ++ [.row e s (l ++ [x])], ?_, by simp, ?_, fun k hk hne => ?_⟩
    · rw [ap_sl1 ht hz hu hm hn hl]
      simp
    · have : ((mm ++ [B.row e s [x]]).set q .dead).length = mm.length + 1 := by simp
      rw [← this]
      simp
    · rw [List.getElem?_append_left (by simp; omega)]
      by_cases hkq : k = q
      · subst hkq
        rcases hne with h | h
        · exact absurd rfl h
        · exact absurd h hl0
      · rw [List.getElem?_set_ne (Ne.symm hkq), List.getElem?_append_left hk]

/-! ### Messages, one by one -/
def msV (l : List Me) : V := .isl 36 (l.map meC)
def allM : List Me → List Me → Bool
  | [], [] => true
  | a :: r, b :: s => lkM a b && allM r s
  | _, _ => false
theorem alk_refl (r : Ru) : alk r r = true := by simp [alk, pl, eqM_refl]
theorem lkM_refl (x : Me) : lkM x x = true := by simp [lkM, alk_refl]
theorem allM_refl : ∀ l : List Me, allM l l = true
  | [] => rfl
  | x :: l => by simp [allM, lkM_refl, allM_refl l]
theorem allM_len : ∀ {a b : List Me}, allM a b = true → a.length = b.length
  | [], [], _ => rfl
  | a :: r, b :: s, h => by
    simp only [allM, Bool.and_eq_true] at h
    simp [allM_len h.2]
  | [], _ :: _, h => by simp [allM] at h
  | _ :: _, [], h => by simp [allM] at h
theorem nfs_mes : ∀ l : List Me, nfss (l.map meC) = true
  | [] => rfl
  | x :: r => by simp only [List.map_cons, nfss, nfs_me, Bool.and_self, nfs_mes r]
theorem nf_ms (l : List Me) : nf (msV l) = true := nfs_mes l
theorem len_ms (m : Mem) (l : List Me) : lenV Try.prog m 26 (msV l) = some (.int .i64 (l.length : Int)) := by unfold msV; rw [lni26, List.length_map]
theorem ia_ms {l : List Me} {j : Nat} {k : IntKind} (h : j < l.length) : iaddrS 36 (msV l) (.int k (j : Int)) = some (.ip (meC l[j])) := iaddrS_isl (by simp [h])
theorem pMe (x : Me) : partK true 36 (meC x) 0 = some (meV x) := rfl
set_option maxHeartbeats 2000000 in
theorem ans8 (a b : List Me) (ha : ∀ x ∈ a, wfM x) (hb : ∀ x ∈ b, wfM x) (hl : a.length < lim) : Ans Try.prog 8 [msV a, msV b] (.bool (allM a b)) := by
  refine Snd_of_W fol rfl rfl (by kernel_rfl) (by kernel_rfl) ?_
  have hla : a.length < 281474976710656 := hl
  cases e0 : decide (a.length = b.length)
  · simp -implicitDefEqProofs only [sims.1, fx.1, keeps.1, tick_on, calleeK, extractV, oneV, faddrK, nonnil, b_shr, b_shl, fieldK, Nat.reduceAdd, Nat.reduceMul, Nat.reduceSub, Nat.reduceEqDiff, Nat.reduceLT, Nat.reduceLeDiff, Nat.reduceBEq, Nat.reduceBNe, reduceIte, Int.reduceEq, Int.reduceLT, Int.reduceLE, Int.reduceNe, Int.reduceToNat, len_ms, eqNat, e0]
    refine ans_ret ?_
    cases h : allM a b with
    | false => rfl
    | true => rw [allM_len h] at e0; simp at e0
  have hl2 : a.length = b.length := by simpa using e0
  simp -implicitDefEqProofs only [sims.1, fx.1, keeps.1, tick_on, calleeK, extractV, oneV, faddrK, nonnil, b_shr, b_shl, fieldK, Nat.reduceAdd, Nat.reduceMul, Nat.reduceSub, Nat.reduceEqDiff, Nat.reduceLT, Nat.reduceLeDiff, Nat.reduceBEq, Nat.reduceBNe, reduceIte, Int.reduceEq, Int.reduceLT, Int.reduceLE, Int.reduceNe, Int.reduceToNat, len_ms, eqNat, e0]
  refine W_loopM (fun j : Nat => [(0, msV a), (1, msV b), (5, .int .i64 (j : Int))])
    (fun j mm => j ≤ a.length ∧ allM a b = allM (a.drop j) (b.drop j)) (fun j => a.length - j) 0 (by kernel_rfl) ⟨Nat.zero_le _, rfl⟩ ?_
  rintro j mm ⟨h1, h2⟩
  rcases Nat.lt_or_ge j a.length with hj | hj
  · have c1 : decide (j < a.length) = true := by simpa using hj
    have hj2 : j < b.length := by omega
    have w2 := add1N j (by omega)
    rw [List.drop_eq_getElem_cons hj, List.drop_eq_getElem_cons hj2] at h2
    simp only [allM] at h2
    simp -implicitDefEqProofs only [sims.1, fx.1, keeps.1, tick_on, calleeK, extractV, oneV, faddrK, nonnil, b_shr, b_shl, fieldK, Nat.reduceAdd, Nat.reduceMul, Nat.reduceSub, Nat.reduceEqDiff, Nat.reduceLT, Nat.reduceLeDiff, Nat.reduceBEq, Nat.reduceBNe, reduceIte, Int.reduceEq, Int.reduceLT, Int.reduceLE, Int.reduceNe, Int.reduceToNat, len_ms, ltNat, c1]
    refine w_quiet ?_
    simp -implicitDefEqProofs only [sims.1, fx.1, keeps.1, tick_on, calleeK, extractV, oneV, faddrK, nonnil, b_shr, b_shl, fieldK, Nat.reduceAdd, Nat.reduceMul, Nat.reduceSub, Nat.reduceEqDiff, Nat.reduceLT, Nat.reduceLeDiff, Nat.reduceBEq, Nat.reduceBNe, reduceIte, Int.reduceEq, Int.reduceLT, Int.reduceLE, Int.reduceNe, Int.reduceToNat, ia_ms hj, ia_ms hj2, pMe]
    refine callQ_ans (ans13 a[j] b[j] (ha _ (List.getElem_mem hj)) (hb _ (List.getElem_mem hj2))) en13 (nfs_me2 _ _) rfl ?_
    cases e : lkM a[j] b[j]
    · rw [e] at h2
      simp -implicitDefEqProofs only [sims.1, fx.1, keeps.1, tick_on, calleeK, extractV, oneV, faddrK, nonnil, b_shr, b_shl, fieldK, Nat.reduceAdd, Nat.reduceMul, Nat.reduceSub, Nat.reduceEqDiff, Nat.reduceLT, Nat.reduceLeDiff, Nat.reduceBEq, Nat.reduceBNe, reduceIte, Int.reduceEq, Int.reduceLT, Int.reduceLE, Int.reduceNe, Int.reduceToNat, e]
      exact ans_ret (by rw [h2]; rfl)
    · rw [e, Bool.true_and] at h2
      simp -implicitDefEqProofs only [sims.1, fx.1, keeps.1, tick_on, calleeK, extractV, oneV, faddrK, nonnil, b_shr, b_shl, fieldK, Nat.reduceAdd, Nat.reduceMul, Nat.reduceSub, Nat.reduceEqDiff, Nat.reduceLT, Nat.reduceLeDiff, Nat.reduceBEq, Nat.reduceBNe, reduceIte, Int.reduceEq, Int.reduceLT, Int.reduceLE, Int.reduceNe, Int.reduceToNat, e, w2]
      exact ⟨j + 1, by kernel_rfl, ⟨hj, h2⟩, by omega⟩
  · have c1 : decide (j < a.length) = false := by simpa using hj
    rw [List.drop_eq_nil_of_le hj, List.drop_eq_nil_of_le (by omega)] at h2
    simp -implicitDefEqProofs only [sims.1, fx.1, keeps.1, tick_on, calleeK, extractV, oneV, faddrK, nonnil, b_shr, b_shl, fieldK, Nat.reduceAdd, Nat.reduceMul, Nat.reduceSub, Nat.reduceEqDiff, Nat.reduceLT, Nat.reduceLeDiff, Nat.reduceBEq, Nat.reduceBNe, reduceIte, Int.reduceEq, Int.reduceLT, Int.reduceLE, Int.reduceNe, Int.reduceToNat, len_ms, ltNat, c1]
    exact ans_ret (by rw [h2]; rfl)

/-! ### Lists of rules -/
def rsV (l : List Ru) : V := .isl 25 (l.map ruC)
theorem nfs_rus : ∀ l : List Ru, nfss (l.map ruC) = true
  | [] => rfl
  | x :: r => by simp only [List.map_cons, nfss, nfs_ru, Bool.and_self, nfs_rus r]
theorem nf_rs (l : List Ru) : nf (rsV l) = true := nfs_rus l
theorem len_rs (m : Mem) (l : List Ru) : lenV Try.prog m 22 (rsV l) = some (.int .i64 (l.length : Int)) := by unfold rsV; rw [lni22, List.length_map]
theorem ia_rs {l : List Ru} {j : Nat} {k : IntKind} (h : j < l.length) : iaddrS 25 (rsV l) (.int k (j : Int)) = some (.ip (ruC l[j])) := iaddrS_isl (by simp [h])
/-- The numbers as far as 100 are passed. -/
def grN (n : Nat) : List (List Act) → Nat
  | [] => n
  | c :: r => if n ≤ 100 then grN (n + c.length) r else n
def bigR (r : Ru) : Bool := decide (100 < grN r.l.length r.l)
def grt (l : List Ru) : Bool := (l.take 151).any bigR || decide (150 < l.length)
theorem grN_ge : ∀ (l : List (List Act)) (n : Nat), n ≤ grN n l
  | [], n => Nat.le_refl _
  | c :: r, n => by
    unfold grN
    split
    · have := grN_ge r (n + c.length); omega
    · exact Nat.le_refl _
theorem grN_all : ∀ (l : List (List Act)) (n : Nat), grN n l ≤ 100 → ∀ c ∈ l, c.length ≤ 100
  | [], _, _, c, hc => by simp at hc
  | d :: r, n, h, c, hc => by
    unfold grN at h
    split at h
    · rcases List.mem_cons.1 hc with rfl | hc
      · have := grN_ge r (n + c.length); omega
      · exact grN_all r _ h c hc
    · omega
theorem grt_small {l : List Ru} (h : grt l = false) : l.length ≤ 150 ∧ ∀ r ∈ l, r.l.length ≤ 100 ∧ ∀ c ∈ r.l, c.length ≤ 100 := by
  unfold grt at h
  simp only [Bool.or_eq_false_iff, decide_eq_false_iff_not, List.any_eq_false] at h
  have hl : l.length ≤ 150 := by omega
  rw [List.take_of_length_le (by omega)] at h
  refine ⟨hl, fun r hr => ?_⟩
  have := h.1 r hr
  simp only [bigR, decide_eq_true_eq] at this
  exact ⟨by have := grN_ge r.l r.l.length; omega, grN_all r.l r.l.length (by omega)⟩
theorem cp46 (c : List Act) : partK false 1 [cpV c] 0 = some (cpV c) := rfl
set_option maxHeartbeats 4000000 in
theorem ans6 (l : List Ru) (hw : ∀ r ∈ l, wfR r) (hl : l.length < 9223372036854775807) : Ans Try.prog 6 [rsV l] (.bool (grt l)) := by
  refine Snd_of_W fol rfl rfl (by kernel_rfl) (by kernel_rfl) ?_
  have le150 : ∀ j : Nat, decide ((j : Int) ≤ 150) = decide (j ≤ 150) := fun j => by rw [Bool.eq_iff_iff, decide_eq_true_eq, decide_eq_true_eq]; omega
  have le100 : ∀ j : Nat, decide ((j : Int) ≤ 100) = decide (j ≤ 100) := fun j => by rw [Bool.eq_iff_iff, decide_eq_true_eq, decide_eq_true_eq]; omega
  have gt100 : ∀ j : Nat, decide ((100 : Int) < (j : Int)) = decide (100 < j) := fun j => by rw [Bool.eq_iff_iff, decide_eq_true_eq, decide_eq_true_eq]; omega
  have gt150 : ∀ j : Nat, decide ((150 : Int) < (j : Int)) = decide (150 < j) := fun j => by rw [Bool.eq_iff_iff, decide_eq_true_eq, decide_eq_true_eq]; omega
  have fin : ∀ j, j = l.length ∨ j = 151 → j ≤ l.length → (l.take j).any bigR = false → grt l = decide (150 < l.length) := fun j h1 h2 h3 => by
    unfold grt
    have : (l.take 151).any bigR = false := by
      rcases h1 with rfl | rfl
      · rw [List.take_of_length_le (Nat.le_refl _)] at h3
        rw [List.any_eq_false] at h3 ⊢
        exact fun x hx => h3 x (List.mem_of_mem_take hx)
      · exact h3
    rw [this, Bool.false_or]
  simp -implicitDefEqProofs only [sims.1, fx.1, keeps.1, tick_on, calleeK, extractV, oneV, faddrK, nonnil, b_shr, b_shl, fieldK, Nat.reduceAdd, Nat.reduceMul, Nat.reduceSub, Nat.reduceEqDiff, Nat.reduceLT, Nat.reduceLeDiff, Nat.reduceBEq, Nat.reduceBNe, reduceIte, Int.reduceEq, Int.reduceLT, Int.reduceLE, Int.reduceNe, Int.reduceToNat]
  refine W_loopM (fun j : Nat => [(3, .int .i64 (j : Int)), (0, rsV l)])
    (fun j mm => j ≤ l.length ∧ j ≤ 151 ∧ (l.take j).any bigR = false) (fun j => l.length - j) 0 (by kernel_rfl) ⟨Nat.zero_le _, by decide, rfl⟩ ?_
  rintro j mm ⟨h1, h2, h3⟩
  rcases Nat.lt_or_ge j l.length with hj | hj
  · have c1 : decide (j < l.length) = true := by simpa using hj
    rcases Nat.lt_or_ge 150 j with h5 | h5
    · have c2 : decide (j ≤ 150) = false := by simpa using h5
      have hf := fin j (.inr (by omega)) h1 h3
      simp -implicitDefEqProofs only [sims.1, fx.1, keeps.1, tick_on, calleeK, extractV, oneV, faddrK, nonnil, b_shr, b_shl, fieldK, Nat.reduceAdd, Nat.reduceMul, Nat.reduceSub, Nat.reduceEqDiff, Nat.reduceLT, Nat.reduceLeDiff, Nat.reduceBEq, Nat.reduceBNe, reduceIte, Int.reduceEq, Int.reduceLT, Int.reduceLE, Int.reduceNe, Int.reduceToNat, len_rs, ltNat, c1, le150, c2, gt150]
      exact ans_ret (by rw [hf])
    · have c2 : decide (j ≤ 150) = true := by simpa using h5
      have w1 := add1N j (by omega)
      have hwj := hw _ (List.getElem_mem hj)
      have hlen : l[j].l.length < 281474976710656 := hwj.2.2.1
      simp -implicitDefEqProofs only [sims.1, fx.1, keeps.1, tick_on, calleeK, extractV, oneV, faddrK, nonnil, b_shr, b_shl, fieldK, Nat.reduceAdd, Nat.reduceMul, Nat.reduceSub, Nat.reduceEqDiff, Nat.reduceLT, Nat.reduceLeDiff, Nat.reduceBEq, Nat.reduceBNe, reduceIte, Int.reduceEq, Int.reduceLT, Int.reduceLE, Int.reduceNe, Int.reduceToNat, len_rs, ltNat, c1, le150, c2, ia_rs hj, lenR, d23R, len_cps]
      obtain ⟨G, hG⟩ : ∃ G, G = grN l[j].l.length l[j].l := ⟨_, rfl⟩
      refine W_loopM (fun x : Nat × Nat => [(5, .int .i64 (x.1 : Int)), (4, .int .i64 (x.2 : Int)), (3, .int .i64 (j : Int)), (0, rsV l)])
        (fun x mm => x.1 ≤ l[j].l.length ∧ x.2 < 562949953421312 ∧ G = grN x.2 (l[j].l.drop x.1)) (fun x => l[j].l.length - x.1) (0, l[j].l.length) (by kernel_rfl) ⟨Nat.zero_le _, by simp only; omega, by rw [hG]; rfl⟩ ?_
      rintro ⟨k, n⟩ m2 ⟨g1, g2, g3⟩
      simp only at g1 g2 g3
      have hout : G = n → (decide (100 < n) = true → bigR l[j] = true) ∧ (decide (100 < n) = false → (l.take (j + 1)).any bigR = false) := fun he => by
        refine ⟨fun hh => ?_, fun hh => ?_⟩
        · unfold bigR
          rw [← hG, he]; exact hh
        · rw [← List.take_append_getElem hj, List.any_append, h3]
          simp only [List.any_cons, List.any_nil, Bool.or_false, Bool.false_or]
          unfold bigR
          rw [← hG, he]; exact hh
      have hbig : bigR l[j] = true → grt l = true := fun hb => by
        unfold grt
        have : (l.take 151).any bigR = true := List.any_eq_true.2 ⟨l[j], by
          refine List.mem_of_getElem? (i := j) ?_
          rw [List.getElem?_take_of_lt (by omega)]
          exact List.getElem?_eq_getElem hj, hb⟩
        rw [this, Bool.true_or]
      rcases Nat.lt_or_ge k l[j].l.length with hk | hk
      · have c3 : decide (k < l[j].l.length) = true := by simpa using hk
        rw [List.drop_eq_getElem_cons hk] at g3
        rcases Nat.lt_or_ge 100 n with h6 | h6
        · have c4 : decide (n ≤ 100) = false := by simpa using h6
          have c5 : decide (100 < n) = true := by simpa using h6
          have hGn : G = n := by rw [g3]; unfold grN; rw [if_neg (by omega)]
          simp -implicitDefEqProofs only [sims.1, fx.1, keeps.1, tick_on, calleeK, extractV, oneV, faddrK, nonnil, b_shr, b_shl, fieldK, Nat.reduceAdd, Nat.reduceMul, Nat.reduceSub, Nat.reduceEqDiff, Nat.reduceLT, Nat.reduceLeDiff, Nat.reduceBEq, Nat.reduceBNe, reduceIte, Int.reduceEq, Int.reduceLT, Int.reduceLE, Int.reduceNe, Int.reduceToNat, ia_rs hj, lenR, d23R, len_cps, ltNat, c3, le100, c4, gt100, c5]
          exact ans_ret (by rw [hbig ((hout hGn).1 c5)])
        · have c4 : decide (n ≤ 100) = true := by simpa using h6
          have hck := (hwj.2.2.2 _ (List.getElem_mem hk)).1
          have hck' : l[j].l[k].length < 281474976710656 := hck
          have w2 := add1N k (by omega)
          have w3 := addN n l[j].l[k].length (by omega)
          simp -implicitDefEqProofs only [sims.1, fx.1, keeps.1, tick_on, calleeK, extractV, oneV, faddrK, nonnil, b_shr, b_shl, fieldK, Nat.reduceAdd, Nat.reduceMul, Nat.reduceSub, Nat.reduceEqDiff, Nat.reduceLT, Nat.reduceLeDiff, Nat.reduceBEq, Nat.reduceBNe, reduceIte, Int.reduceEq, Int.reduceLT, Int.reduceLE, Int.reduceNe, Int.reduceToNat, ia_rs hj, lenR, d23R, len_cps, ltNat, c3, le100, c4, ia_cps hk, len_cp, w2, w3]
          refine ⟨(k + 1, n + l[j].l[k].length), by kernel_rfl, ⟨hk, by simp only; omega, ?_⟩, by simp only; omega⟩
          simp only
          rw [g3]
          conv => lhs; unfold grN
          rw [if_pos h6]
      · have c3 : decide (k < l[j].l.length) = false := by simpa using hk
        rw [List.drop_eq_nil_of_le hk] at g3
        have hGn : G = n := g3
        cases c5 : decide (100 < n)
        · simp -implicitDefEqProofs only [sims.1, fx.1, keeps.1, tick_on, calleeK, extractV, oneV, faddrK, nonnil, b_shr, b_shl, fieldK, Nat.reduceAdd, Nat.reduceMul, Nat.reduceSub, Nat.reduceEqDiff, Nat.reduceLT, Nat.reduceLeDiff, Nat.reduceBEq, Nat.reduceBNe, reduceIte, Int.reduceEq, Int.reduceLT, Int.reduceLE, Int.reduceNe, Int.reduceToNat, ia_rs hj, lenR, d23R, len_cps, ltNat, c3, gt100, c5, w1]
          exact ⟨j + 1, by kernel_rfl, ⟨hj, by omega, (hout hGn).2 c5⟩, by omega⟩
        · simp -implicitDefEqProofs only [sims.1, fx.1, keeps.1, tick_on, calleeK, extractV, oneV, faddrK, nonnil, b_shr, b_shl, fieldK, Nat.reduceAdd, Nat.reduceMul, Nat.reduceSub, Nat.reduceEqDiff, Nat.reduceLT, Nat.reduceLeDiff, Nat.reduceBEq, Nat.reduceBNe, reduceIte, Int.reduceEq, Int.reduceLT, Int.reduceLE, Int.reduceNe, Int.reduceToNat, ia_rs hj, lenR, d23R, len_cps, ltNat, c3, gt100, c5]
          exact ans_ret (by rw [hbig ((hout hGn).1 c5)])
  · have c1 : decide (j < l.length) = false := by simpa using hj
    have hf := fin j (.inl (by omega)) h1 h3
    simp -implicitDefEqProofs only [sims.1, fx.1, keeps.1, tick_on, calleeK, extractV, oneV, faddrK, nonnil, b_shr, b_shl, fieldK, Nat.reduceAdd, Nat.reduceMul, Nat.reduceSub, Nat.reduceEqDiff, Nat.reduceLT, Nat.reduceLeDiff, Nat.reduceBEq, Nat.reduceBNe, reduceIte, Int.reduceEq, Int.reduceLT, Int.reduceLE, Int.reduceNe, Int.reduceToNat, len_rs, ltNat, c1, gt150]
    exact ans_ret (by rw [hf])
end Go.Proofs.Ytggdnepfahknbaa
