/- A rule's lists of actions, read. No condition. A match among a target's cells. No condition. A match, read. No condition. A rule, read. No condition. A rule, read: the walk. No condition. -/
import Derived.Test.YtjjenpdjmcmgbaaDXf
namespace Go.Proofs.Ytjjenpdjmcmgbaa
open Go Ab
set_option linter.unusedSimpArgs false
set_option linter.unusedVariables false
set_option maxRecDepth 20000
theorem rdAc_byt {r : List Nat} {p : Act × List Nat} (h : Byt r) (e : rdAc r = some p) : Byt p.2 := by
  unfold rdAc at e
  cases e1 : rdN 1 r with
  | none => rw [e1] at e; cases e
  | some a =>
    rw [e1] at e
    simp only [Option.bind_some] at e
    cases e2 : rdN 1 a.2 with
    | none => rw [e2] at e; cases e
    | some b =>
      rw [e2] at e
      simp only [Option.bind_some] at e
      cases e3 : rdN 8 b.2 with
      | none => rw [e3] at e; cases e
      | some n =>
        rw [e3] at e
        cases e
        exact rdN_byt (rdN_byt (rdN_byt h e1) e2) e3
theorem rdMany_byt {α : Type} {pe : List Nat → Option (α × List Nat)} (hP : ∀ r p, Byt r → pe r = some p → Byt p.2) {rest : List Nat} (h : Byt rest) : ∀ {n : Nat} {t : List α × List Nat}, rdMany pe rest n = some t → Byt t.2
  | 0, t, e => by cases e; exact h
  | n + 1, t, e => by
    simp only [rdMany] at e
    cases h1 : rdMany pe rest n with
    | none => rw [h1] at e; cases e
    | some u =>
      rw [h1] at e
      simp only [Option.bind_some] at e
      cases g : pe u.2 with
      | none => rw [g] at e; cases e
      | some a =>
        rw [g] at e
        cases e
        exact hP _ _ (rdMany_byt hP h h1) g
theorem rdL_byt {α : Type} {pe : List Nat → Option (α × List Nat)} (hP : ∀ r p, Byt r → pe r = some p → Byt p.2) {rest : List Nat} (h : Byt rest) {t : List α × List Nat} (e : rdL pe rest = some t) : Byt t.2 := by
  unfold rdL at e
  cases h1 : rdN 2 rest with
  | none => rw [h1] at e; cases e
  | some u =>
    rw [h1] at e
    exact rdMany_byt hP (rdN_byt h h1) e
/-- The coder's name in a variable of its own. -/
def Nm (m : Mem) (c k : Nat) : Prop := m[k]? = some (.var 69 [.ptr c 0])
theorem snd72x {m : Mem} {c q ty o k : Nat} {l : List V} {rest : List Nat} (hc : Cr m c rest) (hB : Byt rest) (hk : Nm m c k) (hkc : k ≠ c) (hq : m[q]? = some (.var ty l)) (hqc : q ≠ c) (hkq : k ≠ q) (ho : l[o]? = some .nils) :
    Snd Try.prog 72 [.ptr c 0, .ptr q o, .fn 73 [] [.ptr k 0]] m (RQ c q ty l m (cellR l o ((rdL rdAc rest).map fun t => (cpV t.1, t.2)))) :=
  LQ_RQ (s := 3) (E := 123) (List.getElem?_eq_some_iff.1 hq).1 hc.lt hqc (List.getElem?_eq_some_iff.1 ho).1 (snd72r0 acC (fun a => .agg (acC a)) rdAc hc hB hq hqc ho en73
    (fun m' q' rest' h1 h2 h3 h4 h5 h6 => snd73r h2 h3 (h1.2 k _ hkc hkq hk) h4 h5 hkc (by have := (List.getElem?_eq_some_iff.1 hk).1; omega))
    (fun _ _ => rdAc_byt) (fun _ => rfl) (fun _ => rfl) (fun _ => rfl) (fun _ => rfl) (fun _ => rfl))
set_option maxHeartbeats 1000000 in
theorem snd71r {m : Mem} {c q k : Nat} {rest : List Nat} (hc : Cr m c rest) (hB : Byt rest) (hk : Nm m c k) (hkc : k ≠ c) (hq : m[q]? = some (.var 99 [.nils])) (hqc : q ≠ c) (hkq : k ≠ q) :
    Snd Try.prog 71 [.ptr q 0, .ptr k 0] m (RQ c q 99 [.nils] m ((rdL rdAc rest).map fun t => ([cpV t.1], t.2))) := by
  refine Snd_of_W fol rfl rfl (by kernel_rfl) (by kernel_rfl) ?_
  have hk' : m[k]? = some (.var 69 [.ptr c 0]) := hk
  simp -implicitDefEqProofs only [sims.1, fx.1, keeps.1, tick_on, calleeK, Nat.reduceEqDiff, hk']
  refine callD_r (snd72x (o := 0) hc hB hk hkc hq hqc hkq rfl) en72 ?_ ?_
  · intro l' r' m1 e k1 c1 q1
    cases d : rdL rdAc rest with
    | none => rw [d] at e; cases e
    | some t =>
    rw [d] at e
    cases e
    simp -implicitDefEqProofs only [sims.1, tick_on]
    exact ⟨m1, rfl, k1, c1, q1⟩
  · intro l' m1 e k1 q1 hl
    cases d : rdL rdAc rest with
    | some t => rw [d] at e; cases e
    | none => exact ⟨m1, l', rfl, k1, q1, hl⟩
theorem snd70x {m : Mem} {c q ty o k : Nat} {l : List V} {rest : List Nat} (hc : Cr m c rest) (hB : Byt rest) (hk : Nm m c k) (hkc : k ≠ c) (hq : m[q]? = some (.var ty l)) (hqc : q ≠ c) (hkq : k ≠ q) (ho : l[o]? = some .nils) :
    Snd Try.prog 70 [.ptr c 0, .ptr q o, .fn 71 [] [.ptr k 0]] m (RQ c q ty l m (cellR l o ((rdL (rdL rdAc) rest).map fun t => (cpsV t.1, t.2)))) :=
  LQ_RQ (s := 1) (E := 99) (List.getElem?_eq_some_iff.1 hq).1 hc.lt hqc (List.getElem?_eq_some_iff.1 ho).1 (snd70r0 (fun c => [cpV c]) cpV (rdL rdAc) hc hB hq hqc ho en71
    (fun m' q' rest' h1 h2 h3 h4 h5 h6 => snd71r h2 h3 (h1.2 k _ hkc hkq hk) hkc h4 h5 (by have := (List.getElem?_eq_some_iff.1 hk).1; omega))
    (fun _ _ h => rdL_byt (fun _ _ => rdAc_byt) h) (fun _ => rfl) (fun a => by simp [stys, sty, cpV]) (fun _ => rfl) (fun _ => rfl) (fun _ => rfl))
end Go.Proofs.Ytjjenpdjmcmgbaa
namespace Go.Proofs.Ytjjenpdjmcmgbaa
open Go Ab
set_option linter.unusedSimpArgs false
set_option linter.unusedVariables false
set_option maxRecDepth 20000
/-- These cells, with a match's numbers behind the first o. -/
def putM (l : List V) (o : Nat) (w : Nat → Nat) : List V := l.take o ++ (mC w ++ l.drop (o + 22))
def updN (w : Nat → Nat) (j a : Nat) : Nat → Nat := fun i => if i = j then a else w i
theorem mC_length (w : Nat → Nat) : (mC w).length = 22 := cl_length ..
theorem putM_at {l : List V} {o j : Nat} {w : Nat → Nat} (ho : o ≤ l.length) (hj : j < 22) : (putM l o w)[o + j]? = some (.int .u64 (w j : Int)) := by
  unfold putM
  rw [List.getElem?_append_right (by simp; omega), List.length_take, Nat.min_eq_left ho, List.getElem?_append_left (by rw [mC_length]; omega), Nat.add_sub_cancel_left]
  exact cl_get hj
theorem putM_len {l : List V} {o : Nat} {w : Nat → Nat} (ho : o + 22 ≤ l.length) : (putM l o w).length = l.length := by
  simp only [putM, List.length_append, List.length_take, List.length_drop, mC_length]
  omega
theorem mC_upd {w : Nat → Nat} {j a : Nat} (hj : j < 22) : (mC w).set j (.int .u64 (a : Int)) = mC (updN w j a) := by
  apply List.ext_getElem?
  intro i
  by_cases hi : j = i
  · subst hi
    rw [List.getElem?_set_self (by rw [mC_length]; omega)]
    exact (cl_get hj).symm ▸ by simp [updN]
  · rw [List.getElem?_set_ne hi]
    rcases Nat.lt_or_ge i 22 with h | h
    · simp only [mC, cl_get h, updN]
      rw [if_neg (fun e => hi e.symm)]
    · rw [List.getElem?_eq_none (by rw [mC_length]; omega), List.getElem?_eq_none (by rw [mC_length]; omega)]
theorem putM_set {l : List V} {o j a : Nat} {w : Nat → Nat} (ho : o ≤ l.length) (hj : j < 22) : (putM l o w).set (o + j) (.int .u64 (a : Int)) = putM l o (updN w j a) := by
  unfold putM
  rw [List.set_append_right _ _ (by simp; omega), List.length_take, Nat.min_eq_left ho, Nat.add_sub_cancel_left, List.set_append_left _ _ (by rw [mC_length]; omega), mC_upd hj]
/-- A match's parser behind its bits: the first j fields. -/
def rdFs (bits : Nat) (rest : List Nat) : Nat → Option ((Nat → Nat) × List Nat)
  | 0 => some (fun _ => 0, rest)
  | j + 1 => (rdFs bits rest j).bind fun t => if bits / 2 ^ j % 2 = 0 then some t else (rdN (sz j) t.2).bind fun a => (rdN (sz j) a.2).bind fun b => if b.1 = 0 then none else some (updN (updN t.1 j a.1) (11 + j) b.1, b.2)
def rdM (rest : List Nat) : Option ((Nat → Nat) × List Nat) := (rdN 2 rest).bind fun n => if n.1 / 2 ^ 11 = 0 then rdFs n.1 n.2 11 else none
end Go.Proofs.Ytjjenpdjmcmgbaa
namespace Go.Proofs.Ytjjenpdjmcmgbaa
open Go Ab
set_option linter.unusedSimpArgs false
set_option linter.unusedVariables false
set_option maxRecDepth 20000
def w0 : Nat → Nat := fun _ => 0
def loop69a (c q o n : Nat) (j : Nat) : List (Nat × V) := [(12, .agg (cl .u64 11 fun _ => 0)), (13, .int .i64 (j : Int)), (4, .ptr n 0), (0, .ptr c 0), (1, .ptr q o)]
theorem rdFs_none {bits : Nat} {rest : List Nat} : ∀ {j n : Nat}, j ≤ n → rdFs bits rest j = none → rdFs bits rest n = none
  | j, 0, h, e => by
    obtain rfl : j = 0 := by omega
    exact e
  | j, n + 1, h, e => by
    rcases Nat.lt_or_ge n j with g | g
    · obtain rfl : j = n + 1 := by omega
      exact e
    · simp only [rdFs, rdFs_none g e, Option.bind_none]
set_option maxHeartbeats 2000000 in
theorem snd69r {m : Mem} {c q ty o : Nat} {l : List V} {rest : List Nat} (hc : Cr m c rest) (hB : Byt rest) (ho : o + 22 ≤ l.length) (hq : m[q]? = some (.var ty (putM l o w0))) (hqc : q ≠ c) :
    Snd Try.prog 69 [.ptr c 0, .ptr q o] m (RQ c q ty (putM l o w0) m ((rdM rest).map fun t => (putM l o t.1, t.2))) := by
  refine Snd_of_W fol rfl rfl (by kernel_rfl) (by kernel_rfl) ?_
  have hnn : ∀ k o, nonnil (.ptr k o) = true := fun _ _ => rfl
  have hql := (List.getElem?_eq_some_iff.1 hq).1
  have hs : ∀ (b : B), (m ++ [b])[m.length]? = some b := fun b => by simp
  have hset : ∀ b b' : B, (m ++ [b]).set m.length b' = m ++ [b'] := fun b b' => by simp
  have hq1 : ∀ b, (m ++ [b])[q]? = some (.var ty (putM l o w0)) := fun b => by rw [List.getElem?_append_left hql]; exact hq
  have pk : partK true 11 (putM l o w0) (o + 11) = some (.agg (cl .u64 11 fun _ => 0)) := by
    simp only [partK, cond_true]
    rw [if_pos (by rw [putM_len ho]; omega)]
    congr 2
    apply List.ext_getElem?
    intro i
    rcases Nat.lt_or_ge i 11 with hi | hi
    · rw [List.getElem?_take_of_lt hi, List.getElem?_drop, Nat.add_assoc, putM_at (by omega) (by omega), cl_get hi]
      rfl
    · rw [List.getElem?_eq_none (by simp; omega), List.getElem?_eq_none (by simp; omega)]
  simp -implicitDefEqProofs only [sims.1, fx.1, keeps.1, tick_on, faddrK, nonnil, Nat.reduceEqDiff, Nat.reduceLT, hs, hset, hq1, pk]
  refine W_loopM (loop69a c q o m.length) (fun j M => j ≤ 11 ∧ M = m ++ [.var 24 [.int .u64 0]]) (fun j => 12 - j) 0 (by kernel_rfl) ⟨by omega, rfl⟩ ?_
  rintro j M ⟨h1, rfl⟩
  rcases Nat.lt_or_ge j 11 with hj | hj
  · have c1 : decide (j < 11) = true := by simpa using hj
    have w2 := add1N j (by omega)
    simp -implicitDefEqProofs only [sims.1, fx.1, keeps.1, tick_on, Nat.reduceEqDiff, loop69a, lt11, hj, cl_get, w2]
    exact ⟨j + 1, by kernel_rfl, by first | exact ⟨by omega, rfl⟩ | exact ⟨by omega, trivial⟩ | simp <;> omega, by omega⟩
  · obtain rfl : j = 11 := by omega
    have c1 : decide ((11 : Int) < 11) = false := rfl
    simp -implicitDefEqProofs only [sims.1, keeps.1, tick_on, calleeK, Nat.reduceEqDiff, Int.reduceLT, loop69a, Int.cast_ofNat_Int]
    refine callD_r (snd31q (n := 2) (a := 0) (o := 0) (hc.app _) (hs _) (by have := hc.lt; omega) rfl hB.1 hB.2 (by omega) (by omega)) en31 ?_ ?_
    rotate_left
    · intro l' M1 e k1 q1 hl
      cases d : rdN 2 rest with
      | some a => rw [d] at e; cases e
      | none =>
      have e : rdM rest = none := by simp only [rdM, d, Option.bind_none]
      rw [e]
      exact ⟨M1, _, rfl, k1.new (Nat.le_refl _), k1.2 q _ hqc (by omega) (hq1 _), rfl⟩
    intro l' r' M1 e k1 c1' q1
    cases d : rdN 2 rest with
    | none => rw [d] at e; cases e
    | some n =>
    rw [d] at e
    cases e
    have q1 : M1[m.length]? = some (.var 24 [.int .u64 (n.1 : Int)]) := q1
    have hn16 : n.1 < 256 ^ 2 := by
      unfold rdN at d
      split at d
      · cases d; exact beV_lt hB.1 2
      · cases d
    have B1 : Byt n.2 := rdN_byt hB d
    have qq : M1[q]? = some (.var ty (putM l o w0)) := k1.2 q _ hqc (by omega) (hq1 _)
    have kk : K2 c q m M1 := k1.new (Nat.le_refl _)
    have s11 := shrW n.1 11 (by omega)
    have z11 := eqC0 (n.1 / 2 ^ 11)
    cases e11 : decide (n.1 / 2 ^ 11 = 0)
    · rw [e11] at z11
      simp -implicitDefEqProofs only [sims.1, fx.1, keeps.1, tick_on, b_shr, Nat.reduceEqDiff, Int.reduceLT, Int.reduceToNat, q1, s11, z11]
      have e : rdM rest = none := by simp only [rdM, d, Option.bind_some, if_neg (of_decide_eq_false e11)]
      rw [e]
      exact ⟨M1, _, rfl, kk, qq, rfl⟩
    rw [e11] at z11
    simp -implicitDefEqProofs only [sims.1, fx.1, keeps.1, tick_on, b_shr, Nat.reduceEqDiff, Int.reduceLT, Int.reduceToNat, q1, s11, z11]
    have eM : rdM rest = rdFs n.1 n.2 11 := by simp only [rdM, d, Option.bind_some, if_pos (of_decide_eq_true e11)]
    rw [eM]
    refine W_loopM (loopM2 c m.length (.ptr q o)) (fun j M => j ≤ 11 ∧ ∃ w r', rdFs n.1 n.2 j = some (w, r') ∧ K2 c q m M ∧ Cr M c r' ∧ Byt r' ∧ M[q]? = some (.var ty (putM l o w)) ∧ M[m.length]? = some (.var 24 [.int .u64 (n.1 : Int)])) (fun j => 12 - j) 0 (by kernel_rfl) ⟨by omega, w0, n.2, rfl, kk, c1', B1, qq, q1⟩ ?_
    rintro j M ⟨h1, w, r', h2, h3, h4, h5, h6, h7⟩
    rcases Nat.lt_or_ge j 11 with hj | hj
    rotate_left
    · obtain rfl : j = 11 := by omega
      have c1 : decide ((11 : Int) < 11) = false := rfl
      simp -implicitDefEqProofs only [sims.1, keeps.1, tick_on, Nat.reduceEqDiff, Int.reduceLT, loopM2, Int.cast_ofNat_Int]
      rw [h2]
      exact ⟨M, rfl, h3, h4, h6⟩
    have c1 : decide (j < 11) = true := by simpa using hj
    have w2 := add1N j (by omega)
    have w1 := wrapU j (by omega)
    have s1 := shrW n.1 j (by omega)
    have n1 : ¬ ((j : Int) < 0) := by omega
    have a1 := and1 (n.1 / 2 ^ j) (Nat.lt_of_le_of_lt (Nat.div_le_self _ _) (by omega))
    have z1 := eqC0 (n.1 / 2 ^ j % 2)
    cases e1 : decide (n.1 / 2 ^ j % 2 = 0)
    rotate_left
    · rw [e1] at z1
      simp -implicitDefEqProofs only [sims.1, fx.1, keeps.1, tick_on, b_shr, Nat.reduceEqDiff, loopM2, lt11, c1, h7, w1, s1, n1, a1, z1, w2, Int.toNat_natCast]
      exact ⟨j + 1, by kernel_rfl, ⟨by omega, w, r', by simp only [rdFs, h2, Option.bind_some, if_pos (of_decide_eq_true e1)], h3, h4, h5, h6, by first | exact h7 | trivial⟩, by omega⟩
    rw [e1] at z1
    simp -implicitDefEqProofs only [sims.1, fx.1, keeps.1, tick_on, calleeK, b_shr, Nat.reduceEqDiff, loopM2, lt11, c1, h7, w1, s1, n1, a1, z1, Int.toNat_natCast]
    have w8 := w8j j hj
    rw [w8]
    refine callD_ans (ans75 j hj) en75 rfl rfl ?_
    have sq := szq hj
    obtain ⟨z1, z2, _⟩ := sz_ok hj
    have i1 : iaddrA 11 1 (.ptr q o) (.int .i64 (j : Int)) = some (.ptr q (o + j)) := by rw [iaddrA_nat hj, Nat.mul_one]
    have i2 : iaddrA 11 1 (.ptr q (o + 11)) (.int .i64 (j : Int)) = some (.ptr q (o + 11 + j)) := by rw [iaddrA_nat hj, Nat.mul_one]
    simp -implicitDefEqProofs only [sims.1, fx.1, keeps.1, tick_on, calleeK, faddrK, nonnil, Nat.reduceEqDiff, Int.reduceEq, faddrK, sq, i1]
    refine callD_r (snd31q (n := sz j) (o := o + j) h4 h6 hqc (putM_at (by omega) (by omega)) h5.1 h5.2 z1 (by omega)) en31 ?_ ?_
    rotate_left
    · intro l1 M2 e k2 q2 hl
      cases da : rdN (sz j) r' with
      | some a => rw [da] at e; cases e
      | none =>
      have e5 : rdFs n.1 n.2 11 = none := rdFs_none (j := j + 1) (by omega) (by simp only [rdFs, h2, Option.bind_some, if_neg (of_decide_eq_false e1), da, Option.bind_none])
      rw [e5]
      exact ⟨M2, l1, rfl, h3.trans k2, q2, by rw [hl, putM_len ho, putM_len ho]⟩
    intro l1 r1 M2 e k2 c2 q2
    cases da : rdN (sz j) r' with
    | none => rw [da] at e; cases e
    | some a =>
    rw [da] at e
    cases e
    rw [putM_set (by omega) (by omega)] at q2
    have B2 := rdN_byt h5 da
    simp -implicitDefEqProofs only [sims.1, fx.1, keeps.1, tick_on, calleeK, faddrK, nonnil, Nat.reduceEqDiff, faddrK, i2]
    refine callD_r (snd31q (n := sz j) (o := o + 11 + j) c2 q2 hqc (by rw [Nat.add_assoc]; exact putM_at (by omega) (by omega)) B2.1 B2.2 z1 (by omega)) en31 ?_ ?_
    rotate_left
    · intro l1 M3 e k3 q3 hl
      cases db : rdN (sz j) a.2 with
      | some b => rw [db] at e; cases e
      | none =>
      have e5 : rdFs n.1 n.2 11 = none := rdFs_none (j := j + 1) (by omega) (by simp only [rdFs, h2, Option.bind_some, if_neg (of_decide_eq_false e1), da, db, Option.bind_none])
      rw [e5]
      exact ⟨M3, l1, rfl, h3.trans (k2.trans k3), q3, by rw [hl, putM_len ho, putM_len ho]⟩
    intro l1 r1 M3 e k3 c3 q3
    cases db : rdN (sz j) a.2 with
    | none => rw [db] at e; cases e
    | some b =>
    rw [db] at e
    cases e
    rw [Nat.add_assoc, putM_set (by omega) (by omega)] at q3
    have at3 : (putM l o (updN (updN w j a.1) (11 + j) b.1))[o + 11 + j]? = some (.int .u64 (b.1 : Int)) := by
      rw [Nat.add_assoc, putM_at (by omega) (by omega)]
      simp [updN]
    have zb := eqC0 b.1
    cases eb : decide (b.1 = 0)
    rotate_left
    · rw [eb] at zb
      simp -implicitDefEqProofs only [sims.1, fx.1, keeps.1, tick_on, faddrK, nonnil, Nat.reduceEqDiff, faddrK, i2, q3, at3, zb]
      have e5 : rdFs n.1 n.2 11 = none := rdFs_none (j := j + 1) (by omega) (by simp only [rdFs, h2, Option.bind_some, if_neg (of_decide_eq_false e1), da, db, if_pos (of_decide_eq_true eb)])
      rw [e5]
      simp -implicitDefEqProofs only [tick_on]
      exact ⟨M3, _, rfl, h3.trans (k2.trans k3), q3, by rw [putM_len ho, putM_len ho]⟩
    rw [eb] at zb
    simp -implicitDefEqProofs only [sims.1, fx.1, keeps.1, tick_on, faddrK, nonnil, Nat.reduceEqDiff, faddrK, i2, q3, at3, zb, w2]
    refine ⟨j + 1, by kernel_rfl, ⟨by omega, updN (updN w j a.1) (11 + j) b.1, b.2, by simp only [rdFs, h2, Option.bind_some, if_neg (of_decide_eq_false e1), da, db, if_neg (of_decide_eq_false eb)], h3.trans (k2.trans k3), c3, rdN_byt B2 db, by first | exact q3 | rfl, ?_⟩, by omega⟩
    exact (k2.trans k3).2 _ _ (by have := hc.lt; omega) (by omega) h7
end Go.Proofs.Ytjjenpdjmcmgbaa
namespace Go.Proofs.Ytjjenpdjmcmgbaa
open Go Ab
set_option linter.unusedSimpArgs false
set_option linter.unusedVariables false
set_option maxRecDepth 20000
def rk4 (a : Int) (w : Nat → Nat) (L : V) (ck : Nat) : List V := .int .i64 a :: (mC w ++ [L, .int .u64 (ck : Int)])
/-- A target's cells: a rule's stand between A and B. -/
def R4 (A B : List V) (a : Int) (w : Nat → Nat) (L : V) (ck : Nat) : List V := A ++ (rk4 a w L ck ++ B)
theorem rk4_len (a : Int) (w : Nat → Nat) (L : V) (ck : Nat) : (rk4 a w L ck).length = 25 := by simp [rk4, mC_length]
theorem R4_len (A B : List V) (a : Int) (w : Nat → Nat) (L : V) (ck : Nat) : (R4 A B a w L ck).length = A.length + 25 + B.length := by simp [R4, rk4_len]; omega
theorem mid_at {A B x : List V} {j : Nat} (h : j < x.length) : (A ++ (x ++ B))[A.length + j]? = x[j]? := by
  rw [List.getElem?_append_right (by omega), Nat.add_sub_cancel_left, List.getElem?_append_left h]
theorem mid_set {A B x : List V} {j : Nat} (v : V) (h : j < x.length) : (A ++ (x ++ B)).set (A.length + j) v = A ++ (x.set j v ++ B) := by
  rw [List.set_append_right _ _ (by omega), Nat.add_sub_cancel_left, List.set_append_left _ _ h]
section
variable {A B : List V} {a : Int} {w : Nat → Nat} {L : V} {ck : Nat}
theorem R4_at0 : (R4 A B a w L ck)[A.length]? = some (.int .i64 a) := mid_at (j := 0) (by rw [rk4_len]; omega)
theorem rk4_23 : (rk4 a w L ck)[23]? = some L := by
  show (mC w ++ [L, .int .u64 (ck : Int)])[22]? = _
  rw [List.getElem?_append_right (by rw [mC_length]; omega), mC_length]
  rfl
theorem rk4_24 : (rk4 a w L ck)[24]? = some (.int .u64 (ck : Int)) := by
  show (mC w ++ [L, .int .u64 (ck : Int)])[23]? = _
  rw [List.getElem?_append_right (by rw [mC_length]; omega), mC_length]
  rfl
theorem R4_at23 : (R4 A B a w L ck)[A.length + 23]? = some L := by rw [R4, mid_at (by rw [rk4_len]; omega), rk4_23]
theorem R4_at24 : (R4 A B a w L ck)[A.length + 24]? = some (.int .u64 (ck : Int)) := by rw [R4, mid_at (by rw [rk4_len]; omega), rk4_24]
theorem R4_set0 (a' : Int) : (R4 A B a w L ck).set A.length (.int .i64 a') = R4 A B a' w L ck := mid_set (j := 0) _ (by rw [rk4_len]; omega)
theorem R4_set23 (L' : V) : (R4 A B a w L ck).set (A.length + 23) L' = R4 A B a w L' ck := by
  rw [R4, mid_set _ (by rw [rk4_len]; omega)]
  show A ++ ((V.int .i64 a :: (mC w ++ [L, .int .u64 (ck : Int)]).set 22 L') ++ B) = _
  rw [List.set_append_right _ _ (by rw [mC_length]; omega), mC_length]
  rfl
theorem R4_set24 (ck' : Nat) : (R4 A B a w L ck).set (A.length + 24) (.int .u64 (ck' : Int)) = R4 A B a w L ck' := by
  rw [R4, mid_set _ (by rw [rk4_len]; omega)]
  show A ++ ((V.int .i64 a :: (mC w ++ [L, .int .u64 (ck : Int)]).set 23 _) ++ B) = _
  rw [List.set_append_right _ _ (by rw [mC_length]; omega), mC_length]
  rfl
theorem R4_putM (w' : Nat → Nat) : putM (R4 A B a w L ck) (A.length + 1) w' = R4 A B a w' L ck := by
  have e : ∀ u, R4 A B a u L ck = (A ++ [.int .i64 a]) ++ (mC u ++ ([L, .int .u64 (ck : Int)] ++ B)) := fun u => by simp [R4, rk4]
  have l1 : (A ++ [V.int .i64 a]).length = A.length + 1 := by simp
  unfold putM
  rw [e w, e w', ← l1, List.take_left, show (A ++ [V.int .i64 a]).length + 22 = (A ++ [V.int .i64 a]).length + (mC w).length from by rw [mC_length], List.drop_length_add_append, List.drop_left]
end
/-- A rule's parser. -/
def rdR (rest : List Nat) : Option (Ru × List Nat) := (rdN 4 rest).bind fun a => (rdN 8 a.2).bind fun b => (rdM b.2).bind fun w => (rdL (rdL rdAc) w.2).map fun t => (⟨IntKind.i32.wrap (a.1 : Int), w.1, t.1, b.1⟩, t.2)
theorem rdFs_byt {bits : Nat} {rest : List Nat} (h : Byt rest) : ∀ {j : Nat} {t : (Nat → Nat) × List Nat}, rdFs bits rest j = some t → Byt t.2
  | 0, t, e => by cases e; exact h
  | j + 1, t, e => by
    simp only [rdFs] at e
    cases h1 : rdFs bits rest j with
    | none => rw [h1] at e; cases e
    | some u =>
      rw [h1] at e
      simp only [Option.bind_some] at e
      split at e
      · cases e; exact rdFs_byt h h1
      · cases g : rdN (sz j) u.2 with
        | none => rw [g] at e; cases e
        | some a =>
          rw [g] at e
          simp only [Option.bind_some] at e
          cases g2 : rdN (sz j) a.2 with
          | none => rw [g2] at e; cases e
          | some b =>
            rw [g2] at e
            simp only [Option.bind_some] at e
            split at e
            · cases e
            · cases e
              exact rdN_byt (rdN_byt (rdFs_byt h h1) g) g2
theorem rdM_byt {rest : List Nat} (h : Byt rest) {t : (Nat → Nat) × List Nat} (e : rdM rest = some t) : Byt t.2 := by
  unfold rdM at e
  cases h1 : rdN 2 rest with
  | none => rw [h1] at e; cases e
  | some u =>
    rw [h1] at e
    simp only [Option.bind_some] at e
    split at e
    · exact rdFs_byt (rdN_byt h h1) e
    · cases e
theorem rdLL_byt {rest : List Nat} (h : Byt rest) {t : List (List Act) × List Nat} (e : rdL (rdL rdAc) rest = some t) : Byt t.2 :=
  rdL_byt (fun _ _ h => rdL_byt (fun _ _ => rdAc_byt) h) h e
theorem rdR_byt {rest : List Nat} {p : Ru × List Nat} (h : Byt rest) (e : rdR rest = some p) : Byt p.2 := by
  unfold rdR at e
  cases h1 : rdN 4 rest with
  | none => rw [h1] at e; cases e
  | some a =>
  rw [h1] at e
  simp only [Option.bind_some] at e
  cases h2 : rdN 8 a.2 with
  | none => rw [h2] at e; cases e
  | some b =>
  rw [h2] at e
  simp only [Option.bind_some] at e
  cases h3 : rdM b.2 with
  | none => rw [h3] at e; cases e
  | some w =>
  rw [h3] at e
  simp only [Option.bind_some] at e
  cases h4 : rdL (rdL rdAc) w.2 with
  | none => rw [h4] at e; cases e
  | some t =>
  rw [h4] at e
  cases e
  exact rdLL_byt (rdM_byt (rdN_byt (rdN_byt h h1) h2) h3) h4
theorem i32w (x : Int) : IntKind.i64.wrap (IntKind.i32.wrap x) = IntKind.i32.wrap x := by
  simp [IntKind.wrap, IntKind.bits, IntKind.signed]; omega
end Go.Proofs.Ytjjenpdjmcmgbaa
namespace Go.Proofs.Ytjjenpdjmcmgbaa
open Go Ab
set_option linter.unusedSimpArgs false
set_option linter.unusedVariables false
set_option maxRecDepth 20000
theorem cellR_some {l : List V} {o : Nat} {p : Option (V × List Nat)} {l' : List V} {r : List Nat} (e : cellR l o p = some (l', r)) : ∃ v, p = some (v, r) ∧ l' = l.set o v := by
  cases p with
  | none => cases e
  | some p => cases e; exact ⟨_, rfl, rfl⟩
theorem cellR_none {l : List V} {o : Nat} {p : Option (V × List Nat)} (e : cellR l o p = none) : p = none := by
  cases p with
  | none => rfl
  | some p => cases e
theorem map_none' {α β : Type} {p : Option α} {f : α → β} (e : p.map f = none) : p = none := by cases p with
  | none => rfl
  | some p => cases e
theorem map_some' {α β : Type} {p : Option α} {f : α → β} {b : β} (e : p.map f = some b) : ∃ a, p = some a ∧ f a = b := by cases p with
  | none => cases e
  | some p => cases e; exact ⟨_, rfl, rfl⟩
set_option maxHeartbeats 2000000 in
theorem snd53r {m : Mem} {c q ty : Nat} {A Z : List V} {rest : List Nat} (hc : Cr m c rest) (hB : Byt rest) (hq : m[q]? = some (.var ty (R4 A Z 0 w0 .nils 0))) (hqc : q ≠ c) :
    Snd Try.prog 53 [.ptr c 0, .ptr q A.length] m (RQ c q ty (R4 A Z 0 w0 .nils 0) m ((rdR rest).map fun t => (A ++ (ruC t.1 ++ Z), t.2))) := by
  refine Snd_of_W fol rfl rfl (by kernel_rfl) (by kernel_rfl) ?_
  have nb : newV 69 m (.ptr c 0) = some (.ptr m.length 0, m ++ [.var 69 [.ptr c 0]]) := newV_one rfl
  have hnn : ∀ k o, nonnil (.ptr k o) = true := fun _ _ => rfl
  have hql := (List.getElem?_eq_some_iff.1 hq).1
  have hcl := hc.lt
  have hs : ∀ (b b' : B), (m ++ [b, b'])[m.length]? = some b := fun b b' => by simp
  have hs2 : ∀ (b b' : B), (m ++ [b, b'])[m.length + 1]? = some b' := fun b b' => by simp
  have hap : ∀ (b b' : B), m ++ [b] ++ [b'] = m ++ [b, b'] := fun b b' => by simp
  have hset : ∀ b b' b'' : B, (m ++ [b, b']).set (m.length + 1) b'' = m ++ [b, b''] := fun b b' b'' => by simp
  have hq1 : ∀ ex : Mem, (m ++ ex)[q]? = some (.var ty (R4 A Z 0 w0 .nils 0)) := fun ex => by rw [List.getElem?_append_left hql]; exact hq
  have at0 : ∀ (a : Int) (w : Nat → Nat) (L : V) (ck : Nat), (R4 A Z a w L ck)[A.length]? = some (.int .i64 a) := fun _ _ _ _ => R4_at0
  have a1 : IntKind.i32.wrap 0 = 0 := rfl
  have a2 : IntKind.u32.wrap 0 = 0 := rfl
  simp -implicitDefEqProofs only [sims.1, fx.1, keeps.1, tick_on, calleeK, faddrK, nonnil, Nat.reduceEqDiff, Nat.reduceLT, nb, hap, hq1, at0, a1, a2, List.length_append, hs, hs2, hset]
  refine callD_r (snd22r (o := 0) (hc.app _) (hs2 _ _) (by omega) rfl hB.1 hB.2) en22 ?_ ?_
  rotate_left
  · intro l1 m1 e k1 q1 hl
    have e := map_none' (cellR_none e)
    rw [show rdR rest = none from by simp only [rdR, e, Option.bind_none]]
    exact ⟨m1, _, rfl, k1.new (by omega), k1.2 q _ hqc (by omega) (hq1 _), rfl⟩
  intro l1 r1 m1 e k1 c1 q1
  obtain ⟨v, e5, rfl⟩ := cellR_some e
  obtain ⟨a, da, e6⟩ := map_some' e5
  cases e6
  have q1 : m1[m.length + 1]? = some (.var 23 [.int .u32 (a.1 : Int)]) := q1
  have B1 : Byt a.2 := rdN_byt hB da
  have kk : K2 c q m m1 := k1.new (by omega)
  have n1 : m1[m.length]? = some (.var 69 [.ptr c 0]) := k1.2 _ _ (by omega) (by omega) (hs _ _)
  have qq : m1[q]? = some (.var ty (R4 A Z 0 w0 .nils 0)) := k1.2 q _ hqc (by omega) (hq1 _)
  have hqq := (List.getElem?_eq_some_iff.1 qq).1
  have hol : A.length < (R4 A Z 0 w0 .nils 0).length := by rw [R4_len]; omega
  have w1 := i32w (a.1 : Int)
  have st0 : ∀ a' : Int, (R4 A Z 0 w0 .nils 0).set A.length (.int .i64 a') = R4 A Z a' w0 .nils 0 := fun a' => R4_set0 a'
  simp -implicitDefEqProofs only [sims.1, fx.1, keeps.1, tick_on, faddrK, nonnil, Nat.reduceEqDiff, q1, w1, qq, hol, st0]
  generalize hM1 : m1.set q (.var ty (R4 A Z (IntKind.i32.wrap (a.1 : Int)) w0 .nils 0)) = M1
  have k2 : K2 c q m M1 := by rw [← hM1]; exact kk.set _
  have c2 : Cr M1 c a.2 := by unfold Cr; rw [← hM1, List.getElem?_set_ne hqc]; exact c1
  have q2 : M1[q]? = some (.var ty (R4 A Z (IntKind.i32.wrap (a.1 : Int)) w0 .nils 0)) := by rw [← hM1]; exact List.getElem?_set_self hqq
  have n2 : Nm M1 c m.length := by unfold Nm; rw [← hM1, List.getElem?_set_ne (by omega)]; exact n1
  clear hM1
  have eR : rdR rest = (rdN 8 a.2).bind fun b => (rdM b.2).bind fun w => (rdL (rdL rdAc) w.2).map fun t => (⟨IntKind.i32.wrap (a.1 : Int), w.1, t.1, b.1⟩, t.2) := by simp only [rdR, da, Option.bind_some]
  rw [eR]
  clear eR
  generalize IntKind.i32.wrap (a.1 : Int) = rk at *
  refine w_callsP (JR M1 (GR c q ty (R4 A Z rk w0 .nils 0) M1 (cellR (R4 A Z rk w0 .nils 0) (A.length + 24) ((rdN 8 a.2).map fun p => (.int .u64 (p.1 : Int), p.2))))) (HR c q ty (R4 A Z rk w0 .nils 0) M1 (cellR (R4 A Z rk w0 .nils 0) (A.length + 24) ((rdN 8 a.2).map fun p => (.int .u64 (p.1 : Int), p.2)))) [4] [.ptr c 0, .ptr q A.length, .ptr q A.length, .ptr q (A.length + 24), .tup []] (by kernel_rfl) rfl ?_ ?_ ?_
  · refine okN_early 0 rfl rfl rfl rfl (fun i M' hi h => by
      show Option.map (Res.val · M') (loadV Try.prog M' 69 (.ptr m.length 0)) = _
      rw [JR0 h hi, ld69, loadK_ptr, n2]
      rfl) ?_
    refine okN_pure rfl rfl rfl (fun _ _ _ => rfl) ?_
    refine okN_pure rfl rfl rfl (fun _ M' _ => rfl) ?_
    refine okN_pure rfl rfl rfl (fun _ M' _ => by
      show Option.map (Res.val · M') (faddrV Try.prog 31 3 (.ptr q A.length)) = _
      rw [fa31_3]
      rfl) ?_
    refine okN_call rfl (show calleeV (evO _) _ = some (31, [.ptr c 0, .ptr q (A.length + 24), .int .i64 8]) by kernel_rfl) rfl rfl (fun m' h => callD_jr (snd31q (n := 8) (o := A.length + 24) (a := 0) c2 q2 hqc R4_at24 B1.1 B1.2 (by omega) (by omega)) en31 h) ?_
    exact okN_nil
  rotate_left
  · rintro _ M ⟨rfl, e, kk, l', q', hl⟩
    have e := map_none' (cellR_none e)
    rw [e]
    exact ⟨M, l', rfl, k2.trans kk, q', by rw [hl, R4_len, R4_len]⟩
  rintro M2 ⟨l2, r2, e, k3, c3, q3⟩
  obtain ⟨v, e5, rfl⟩ := cellR_some e
  obtain ⟨b, db, e6⟩ := map_some' e5
  cases e6
  have B2 : Byt b.2 := rdN_byt B1 db
  have q3 : M2[q]? = some (.var ty (R4 A Z rk w0 .nils b.1)) := by rw [q3, R4_set24]
  have n3 : Nm M2 c m.length := k3.2 _ _ (by omega) (by omega) n2
  have k3 := k2.trans k3
  rw [db]
  simp only [Option.bind_some]
  simp -implicitDefEqProofs only [sims.1, tick_on, putAll]
  refine w_callsP (JR M2 (GR c q ty (R4 A Z rk w0 .nils b.1) M2 ((rdM b.2).map fun t => (R4 A Z rk t.1 .nils b.1, t.2)))) (HR c q ty (R4 A Z rk w0 .nils b.1) M2 ((rdM b.2).map fun t => (R4 A Z rk t.1 .nils b.1, t.2))) [4] [.ptr c 0, .ptr q A.length, .ptr q A.length, .ptr q (A.length + 1), .tup []] (by kernel_rfl) rfl ?_ ?_ ?_
  · refine okN_early 0 rfl rfl rfl rfl (fun i M' hi h => by
      show Option.map (Res.val · M') (loadV Try.prog M' 69 (.ptr m.length 0)) = _
      rw [JR0 h hi, ld69, loadK_ptr, n3]
      rfl) ?_
    refine okN_pure rfl rfl rfl (fun _ _ _ => rfl) ?_
    refine okN_pure rfl rfl rfl (fun _ M' _ => rfl) ?_
    refine okN_pure rfl rfl rfl (fun _ M' _ => by
      show Option.map (Res.val · M') (faddrV Try.prog 31 1 (.ptr q A.length)) = _
      rw [fa31_1]
      rfl) ?_
    refine okN_call rfl (show calleeV (evO _) _ = some (69, [.ptr c 0, .ptr q (A.length + 1)]) by kernel_rfl) rfl rfl (fun m' h => callD_jr (?_ : Snd Try.prog 69 _ M2 _) en69 h) ?_
    · have := snd69r (l := R4 A Z rk w0 .nils b.1) (o := A.length + 1) (ty := ty) c3 B2 (by rw [R4_len]; omega) (by rw [R4_putM]; exact q3) hqc
      simp only [R4_putM] at this
      exact this
    exact okN_nil
  rotate_left
  · rintro _ M ⟨rfl, e, kk, l', q', hl⟩
    have e := map_none' e
    rw [e]
    exact ⟨M, l', rfl, k3.trans kk, q', by rw [hl, R4_len, R4_len]⟩
  rintro M3 ⟨l3, r3, e, k4, c4, q4⟩
  obtain ⟨w, dw, e6⟩ := map_some' e
  cases e6
  have B3 : Byt w.2 := rdM_byt B2 dw
  have n4 : Nm M3 c m.length := k4.2 _ _ (by omega) (by omega) n3
  have k4 := k3.trans k4
  rw [dw]
  simp only [Option.bind_some]
  simp -implicitDefEqProofs only [sims.1, tick_on, putAll]
  refine w_callsP (JR M3 (GR c q ty (R4 A Z rk w.1 .nils b.1) M3 (cellR (R4 A Z rk w.1 .nils b.1) (A.length + 23) ((rdL (rdL rdAc) w.2).map fun t => (cpsV t.1, t.2))))) (HR c q ty (R4 A Z rk w.1 .nils b.1) M3 (cellR (R4 A Z rk w.1 .nils b.1) (A.length + 23) ((rdL (rdL rdAc) w.2).map fun t => (cpsV t.1, t.2)))) [5] [.ptr c 0, .ptr q A.length, .ptr q A.length, .ptr q (A.length + 23), .fn 71 [] [.ptr m.length 0], .tup []] (by kernel_rfl) rfl ?_ ?_ ?_
  · refine okN_early 0 rfl rfl rfl rfl (fun i M' hi h => by
      show Option.map (Res.val · M') (loadV Try.prog M' 69 (.ptr m.length 0)) = _
      rw [JR0 h hi, ld69, loadK_ptr, n4]
      rfl) ?_
    refine okN_pure rfl rfl rfl (fun _ _ _ => rfl) ?_
    refine okN_pure rfl rfl rfl (fun _ M' _ => rfl) ?_
    refine okN_pure rfl rfl rfl (fun _ M' _ => by
      show Option.map (Res.val · M') (faddrV Try.prog 31 2 (.ptr q A.length)) = _
      rw [fa31_2]
      rfl) ?_
    refine okN_pure rfl rfl rfl (fun _ M' _ => rfl) ?_
    refine okN_call rfl (show calleeV (evO _) _ = some (70, [.ptr c 0, .ptr q (A.length + 23), .fn 71 [] [.ptr m.length 0]]) by kernel_rfl) rfl rfl (fun m' h => callD_jr (snd70x (o := A.length + 23) c4 B3 n4 (by omega) q4 hqc (by omega) R4_at23) en70 h) ?_
    exact okN_nil
  rotate_left
  · rintro _ M ⟨rfl, e, kk, l', q', hl⟩
    have e := map_none' (cellR_none e)
    rw [e]
    exact ⟨M, l', rfl, k4.trans kk, q', by rw [hl, R4_len, R4_len]⟩
  rintro M4 ⟨l4, r4, e, k5, c5, q5⟩
  obtain ⟨v, e5, rfl⟩ := cellR_some e
  obtain ⟨t, dt, e6⟩ := map_some' e5
  cases e6
  rw [dt]
  simp -implicitDefEqProofs only [sims.1, keeps.1, tick_on, putAll]
  rw [R4_set23] at q5
  exact ⟨M4, rfl, k4.trans k5, c5, q5⟩
end Go.Proofs.Ytjjenpdjmcmgbaa
