/- An action, read. No condition. Lists that grow while they are read. No condition. -/
import Derived.Test.YtjjenpdjmcmgbaaBXc
import Derived.Test.YtjjenpdjmcmgbaaBZe
import Derived.Test.YtjjenpdjmcmgbaaBZc
namespace Go.Proofs.Ytjjenpdjmcmgbaa
open Go Ab
set_option linter.unusedSimpArgs false
set_option linter.unusedVariables false
set_option maxRecDepth 20000
def GR (c q ty : Nat) (l : List V) (m : Mem) (p : Option (List V × List Nat)) (M : Mem) : Prop := ∃ l' rest', p = some (l', rest') ∧ K2 c q m M ∧ Cr M c rest' ∧ M[q]? = some (.var ty l')
def HR (c q ty : Nat) (l : List V) (m : Mem) (p : Option (List V × List Nat)) (v : V) (M : Mem) : Prop := v = wrongV ∧ p = none ∧ K2 c q m M ∧ ∃ l', M[q]? = some (.var ty l') ∧ l'.length = l.length
def JR (m : Mem) (G : Mem → Prop) : Nat → Mem → Prop
  | 0, M => M = m
  | _ + 1, M => G M
theorem JR0 {m : Mem} {G : Mem → Prop} {i : Nat} {M : Mem} (h : JR m G i M) (hi : i ≤ 0) : M = m := by
  obtain rfl : i = 0 := by omega
  exact h
theorem callD_jr {f : FuncId} {vs : List V} {m M : Mem} {c q ty : Nat} {l : List V} {p : Option (List V × List Nat)} (h : Snd Try.prog f vs m (RQ c q ty l m p)) (he : enterable Try.prog f = true) (hM : M = m) :
    callD Try.prog f vs M (fun u m' => u = .tup [] ∧ GR c q ty l m p m') (HR c q ty l m p) := by
  subst hM
  exact callD_r h he (fun l' rest' m1 h1 h2 h3 h4 => ⟨rfl, l', rest', h1, h2, h3, h4⟩) (fun l' m1 h1 h2 h3 h4 => ⟨rfl, h1, h2, l', h3, h4⟩)
theorem snd31q {m : Mem} {c q ty o n : Nat} {l : List V} {rest : List Nat} {a : Int} (hc : Cr m c rest) (hq : m[q]? = some (.var ty l)) (hqc : q ≠ c) (ho : l[o]? = some (.int .u64 a)) (hb : ∀ b ∈ rest, b < 256) (hL : rest.length < 281474976710656) (h0 : 0 < n) (hn : n ≤ 8) :
    Snd Try.prog 31 [.ptr c 0, .ptr q o, .int .i64 (n : Int)] m (RQ c q ty l m (cellR l o ((rdN n rest).map fun p => (.int .u64 (p.1 : Int), p.2)))) :=
  (snd31r hc hq hqc ho hb hL h0 hn).mono fun _ => RN_RQ
/-- Bytes as they come. -/
def Byt (l : List Nat) : Prop := (∀ b ∈ l, b < 256) ∧ l.length < 281474976710656
theorem Byt.drop {l : List Nat} (h : Byt l) (n : Nat) : Byt (l.drop n) := ⟨fun b hb => h.1 b (List.mem_of_mem_drop hb), by have := h.2; simp; omega⟩
theorem rdN_byt {n : Nat} {rest : List Nat} {p : Nat × List Nat} (h : Byt rest) (e : rdN n rest = some p) : Byt p.2 := by
  unfold rdN at e
  split at e
  · cases e; exact h.drop n
  · cases e
/-- An action's parser. -/
def rdAc (rest : List Nat) : Option (Act × List Nat) := (rdN 1 rest).bind fun a => (rdN 1 a.2).bind fun b => (rdN 8 b.2).map fun n => (⟨IntKind.i8.wrap (a.1 : Int), IntKind.i8.wrap (b.1 : Int), n.1⟩, n.2)
def acz : List V := [.int .i8 0, .int .i8 0, .int .u64 0]
set_option maxHeartbeats 1000000 in
theorem snd73r {m : Mem} {c q k : Nat} {rest : List Nat} (hc : Cr m c rest) (hB : Byt rest) (hk : m[k]? = some (.var 69 [.ptr c 0])) (hq : m[q]? = some (.var 123 acz)) (hqc : q ≠ c) (hkc : k ≠ c) (hkq : k ≠ q) :
    Snd Try.prog 73 [.ptr q 0, .ptr k 0] m (RQ c q 123 acz m ((rdAc rest).map fun p => (acC p.1, p.2))) := by
  refine Snd_of_W fol rfl rfl (by kernel_rfl) (by kernel_rfl) ?_
  have hnn : ∀ k o, nonnil (.ptr k o) = true := fun _ _ => rfl
  simp -implicitDefEqProofs only [sims.1, fx.1, keeps.1, tick_on, calleeK, extractV, oneV, faddrK, nonnil, b_shr, b_shl, fieldK, Nat.reduceAdd, Nat.reduceMul, Nat.reduceSub, Nat.reduceEqDiff, Nat.reduceLT, Nat.reduceLeDiff, Nat.reduceBEq, Nat.reduceBNe, reduceIte, Int.reduceEq, Int.reduceLT, Int.reduceLE, Int.reduceNe, Int.reduceToNat]
  refine w_callsP (JR m (GR c q 123 acz m (cellR acz 0 ((rdN 1 rest).map fun p => (.int .i8 (IntKind.i8.wrap (p.1 : Int)), p.2))))) (HR c q 123 acz m (cellR acz 0 ((rdN 1 rest).map fun p => (.int .i8 (IntKind.i8.wrap (p.1 : Int)), p.2)))) [4] [.ptr c 0, .ptr q 0, .ptr q 0, .ptr q 0, .tup []] (by kernel_rfl) rfl ?_ ?_ ?_
  · refine okN_early 0 rfl rfl rfl rfl (fun i M' hi h => by
      show Option.map (Res.val · M') (loadV Try.prog M' 69 (.ptr k 0)) = _
      rw [JR0 h hi, ld69, loadK_ptr, hk]
      rfl) ?_
    refine okN_pure rfl rfl rfl (fun _ _ _ => rfl) ?_
    refine okN_pure rfl rfl rfl (fun _ M' _ => rfl) ?_
    refine okN_pure rfl rfl rfl (fun _ M' _ => by
      show Option.map (Res.val · M') (faddrV Try.prog 123 0 (.ptr q 0)) = _
      rw [fa123_0]
      rfl) ?_
    refine okN_call rfl (show calleeV (evO _) _ = some (52, [.ptr c 0, .ptr q 0, .int .i64 1]) by kernel_rfl) rfl rfl (fun m' h => callD_jr (snd52r (o := 0) hc hq hqc rfl hB.1 hB.2) en52 h) ?_
    exact okN_nil
  · rintro m1 ⟨l', r', e1, k1, c1, q1⟩
    cases d1 : rdN 1 rest with
    | none => rw [d1] at e1; cases e1
    | some a =>
    rw [d1] at e1
    cases e1
    have hk1 := k1.2 _ _ hkc hkq hk
    have B1 : Byt a.2 := rdN_byt hB d1
    have q1 : m1[q]? = some (.var 123 [.int .i8 (IntKind.i8.wrap (a.1 : Int)), .int .i8 0, .int .u64 0]) := q1
    have c1 : Cr m1 c a.2 := c1
    simp only [putAll]
    simp -implicitDefEqProofs only [sims.1, fx.1, keeps.1, tick_on, calleeK, extractV, oneV, faddrK, nonnil, b_shr, b_shl, fieldK, Nat.reduceAdd, Nat.reduceMul, Nat.reduceSub, Nat.reduceEqDiff, Nat.reduceLT, Nat.reduceLeDiff, Nat.reduceBEq, Nat.reduceBNe, reduceIte, Int.reduceEq, Int.reduceLT, Int.reduceLE, Int.reduceNe, Int.reduceToNat]
    refine w_callsP (JR m1 (GR c q 123 [.int .i8 (IntKind.i8.wrap (a.1 : Int)), .int .i8 0, .int .u64 0] m1 (cellR [.int .i8 (IntKind.i8.wrap (a.1 : Int)), .int .i8 0, .int .u64 0] 1 ((rdN 1 a.2).map fun p => (.int .i8 (IntKind.i8.wrap (p.1 : Int)), p.2))))) (HR c q 123 [.int .i8 (IntKind.i8.wrap (a.1 : Int)), .int .i8 0, .int .u64 0] m1 (cellR [.int .i8 (IntKind.i8.wrap (a.1 : Int)), .int .i8 0, .int .u64 0] 1 ((rdN 1 a.2).map fun p => (.int .i8 (IntKind.i8.wrap (p.1 : Int)), p.2)))) [4] [.ptr c 0, .ptr q 0, .ptr q 0, .ptr q 1, .tup []] (by kernel_rfl) rfl ?_ ?_ ?_
    · refine okN_early 0 rfl rfl rfl rfl (fun i M' hi h => by
        show Option.map (Res.val · M') (loadV Try.prog M' 69 (.ptr k 0)) = _
        rw [JR0 h hi, ld69, loadK_ptr, hk1]
        rfl) ?_
      refine okN_pure rfl rfl rfl (fun _ _ _ => rfl) ?_
      refine okN_pure rfl rfl rfl (fun _ M' _ => rfl) ?_
      refine okN_pure rfl rfl rfl (fun _ M' _ => by
        show Option.map (Res.val · M') (faddrV Try.prog 123 1 (.ptr q 0)) = _
        rw [fa123_1]
        rfl) ?_
      refine okN_call rfl (show calleeV (evO _) _ = some (52, [.ptr c 0, .ptr q 1, .int .i64 1]) by kernel_rfl) rfl rfl (fun m' h => callD_jr (snd52r (o := 1) c1 q1 hqc rfl B1.1 B1.2) en52 h) ?_
      exact okN_nil
    · rintro m2 ⟨l', r', e2, k2, c2, q2⟩
      cases d2 : rdN 1 a.2 with
      | none => rw [d2] at e2; cases e2
      | some b =>
      rw [d2] at e2
      cases e2
      have hk2 := k2.2 _ _ hkc hkq hk1
      have B2 : Byt b.2 := rdN_byt B1 d2
      have q2 : m2[q]? = some (.var 123 [.int .i8 (IntKind.i8.wrap (a.1 : Int)), .int .i8 (IntKind.i8.wrap (b.1 : Int)), .int .u64 0]) := q2
      have c2 : Cr m2 c b.2 := c2
      simp only [putAll]
      simp -implicitDefEqProofs only [sims.1, fx.1, keeps.1, tick_on, calleeK, extractV, oneV, faddrK, nonnil, b_shr, b_shl, fieldK, Nat.reduceAdd, Nat.reduceMul, Nat.reduceSub, Nat.reduceEqDiff, Nat.reduceLT, Nat.reduceLeDiff, Nat.reduceBEq, Nat.reduceBNe, reduceIte, Int.reduceEq, Int.reduceLT, Int.reduceLE, Int.reduceNe, Int.reduceToNat]
      refine w_callsP (JR m2 (GR c q 123 [.int .i8 (IntKind.i8.wrap (a.1 : Int)), .int .i8 (IntKind.i8.wrap (b.1 : Int)), .int .u64 0] m2 (cellR [.int .i8 (IntKind.i8.wrap (a.1 : Int)), .int .i8 (IntKind.i8.wrap (b.1 : Int)), .int .u64 0] 2 ((rdN 8 b.2).map fun p => (.int .u64 (p.1 : Int), p.2))))) (HR c q 123 [.int .i8 (IntKind.i8.wrap (a.1 : Int)), .int .i8 (IntKind.i8.wrap (b.1 : Int)), .int .u64 0] m2 (cellR [.int .i8 (IntKind.i8.wrap (a.1 : Int)), .int .i8 (IntKind.i8.wrap (b.1 : Int)), .int .u64 0] 2 ((rdN 8 b.2).map fun p => (.int .u64 (p.1 : Int), p.2)))) [4] [.ptr c 0, .ptr q 0, .ptr q 0, .ptr q 2, .tup []] (by kernel_rfl) rfl ?_ ?_ ?_
      · refine okN_early 0 rfl rfl rfl rfl (fun i M' hi h => by
          show Option.map (Res.val · M') (loadV Try.prog M' 69 (.ptr k 0)) = _
          rw [JR0 h hi, ld69, loadK_ptr, hk2]
          rfl) ?_
        refine okN_pure rfl rfl rfl (fun _ _ _ => rfl) ?_
        refine okN_pure rfl rfl rfl (fun _ M' _ => rfl) ?_
        refine okN_pure rfl rfl rfl (fun _ M' _ => by
          show Option.map (Res.val · M') (faddrV Try.prog 123 2 (.ptr q 0)) = _
          rw [fa123_2]
          rfl) ?_
        refine okN_call rfl (show calleeV (evO _) _ = some (31, [.ptr c 0, .ptr q 2, .int .i64 8]) by kernel_rfl) rfl rfl (fun m' h => callD_jr (snd31q (n := 8) (o := 2) (a := 0) c2 q2 hqc rfl B2.1 B2.2 (by omega) (by omega)) en31 h) ?_
        exact okN_nil
      · rintro m3 ⟨l', r', e3, k3, c3, q3⟩
        cases d3 : rdN 8 b.2 with
        | none => rw [d3] at e3; cases e3
        | some n =>
        rw [d3] at e3
        cases e3
        simp -implicitDefEqProofs only [sims.1, fx.1, keeps.1, tick_on, calleeK, extractV, oneV, faddrK, nonnil, b_shr, b_shl, fieldK, Nat.reduceAdd, Nat.reduceMul, Nat.reduceSub, Nat.reduceEqDiff, Nat.reduceLT, Nat.reduceLeDiff, Nat.reduceBEq, Nat.reduceBNe, reduceIte, Int.reduceEq, Int.reduceLT, Int.reduceLE, Int.reduceNe, Int.reduceToNat, putAll]
        have e : rdAc rest = some (⟨IntKind.i8.wrap (a.1 : Int), IntKind.i8.wrap (b.1 : Int), n.1⟩, n.2) := by simp only [rdAc, d1, d2, d3, Option.bind_some, Option.map_some]
        rw [e]
        exact ⟨m3, rfl, k1.trans (k2.trans k3), c3, q3⟩
      · rintro _ M ⟨rfl, e, kk, l', q', hl⟩
        cases d : rdN 8 b.2 with
        | some a => rw [d] at e; cases e
        | none =>
        have e : rdAc rest = none := by simp only [rdAc, d1, d2, d, Option.bind_some, Option.bind_none, Option.map_none]
        rw [e]
        exact ⟨M, l', rfl, k1.trans (k2.trans kk), q', hl⟩
    · rintro _ M ⟨rfl, e, kk, l', q', hl⟩
      cases d : rdN 1 a.2 with
      | some a => rw [d] at e; cases e
      | none =>
      have e : rdAc rest = none := by simp only [rdAc, d1, d, Option.bind_some, Option.bind_none, Option.map_none]
      rw [e]
      exact ⟨M, l', rfl, k1.trans kk, q', hl⟩
  · rintro _ M ⟨rfl, e, kk, l', q', hl⟩
    cases d : rdN 1 rest with
    | some a => rw [d] at e; cases e
    | none =>
    have e : rdAc rest = none := by simp only [rdAc, d, Option.bind_some, Option.bind_none, Option.map_none]
    rw [e]
    exact ⟨M, l', rfl, kk, q', hl⟩
end Go.Proofs.Ytjjenpdjmcmgbaa
namespace Go.Proofs.Ytjjenpdjmcmgbaa
open Go Ab
set_option linter.unusedSimpArgs false
set_option linter.unusedVariables false
set_option maxRecDepth 20000
/-- So many elements, one behind the other. -/
def rdMany {α : Type} (pe : List Nat → Option (α × List Nat)) (rest : List Nat) : Nat → Option (List α × List Nat)
  | 0 => some ([], rest)
  | n + 1 => (rdMany pe rest n).bind fun t => (pe t.2).map fun a => (t.1 ++ [a.1], a.2)
theorem rdMany_none {α : Type} {pe : List Nat → Option (α × List Nat)} {rest : List Nat} : ∀ {j n : Nat}, j ≤ n → rdMany pe rest j = none → rdMany pe rest n = none
  | j, 0, h, e => by
    obtain rfl : j = 0 := by omega
    exact e
  | j, n + 1, h, e => by
    rcases Nat.lt_or_ge n j with g | g
    · obtain rfl : j = n + 1 := by omega
      exact e
    · simp only [rdMany, rdMany_none g e, Option.bind_none]
theorem rdMany_len {α : Type} {pe : List Nat → Option (α × List Nat)} {rest : List Nat} : ∀ {n : Nat} {t : List α × List Nat}, rdMany pe rest n = some t → t.1.length = n
  | 0, t, e => by cases e; rfl
  | n + 1, t, e => by
    simp only [rdMany] at e
    cases h : rdMany pe rest n with
    | none => rw [h] at e; cases e
    | some u =>
      rw [h] at e
      simp only [Option.bind_some] at e
      cases g : pe u.2 with
      | none => rw [g] at e; cases e
      | some a =>
        rw [g] at e
        cases e
        simp [rdMany_len h]
/-- A list's parser: its length in two bytes, then its elements. -/
def rdL {α : Type} (pe : List Nat → Option (α × List Nat)) (rest : List Nat) : Option (List α × List Nat) := (rdN 2 rest).bind fun n => rdMany pe n.2 n.1
/-- The elements so far: no slice yet, or a row. -/
def bufR (s k : Nat) : List (List V) → V
  | [] => .nils
  | _ :: l => .sl s k 0 (l.length + 1)
theorem bufR_cons {s k : Nat} {es : List (List V)} (h : es ≠ []) : bufR s k es = .sl s k 0 es.length := by cases es <;> simp_all [bufR]
theorem bufR_snoc (s k : Nat) (es : List (List V)) (x : List V) : bufR s k (es ++ [x]) = .sl s k 0 (es.length + 1) := by rw [bufR_cons (by simp)]; simp
def killE (m : Mem) (k : Nat) (es : List (List V)) : Mem := match es with
  | [] => m
  | _ :: _ => m.set k .dead
theorem killE_len (m : Mem) (k : Nat) (es : List (List V)) : (killE m k es).length = m.length := by cases es <;> simp [killE]
theorem killE_at {m : Mem} {k n : Nat} {es : List (List V)} (h : es ≠ [] → n ≠ k) : (killE m k es)[n]? = m[n]? := by
  cases es with
  | nil => rfl
  | cons b l => exact List.getElem?_set_ne (fun e => h (by simp) e.symm)
section
variable {P : Program} {m : Mem} {t e : TypeId} {s by_ : Nat} {z x : List V}
theorem apR {es : List (List V)} {k n : Nat} (ht : P.underlying t = some (.slice e)) (hz : zeroE P e = some (z, s, by_)) (hu : isSliceT P t = true) (hby : by_ ≤ 1000) (hk : m[k]? = some (.row e s [x])) (hm : es ≠ [] → m[n]? = some (.row e s es)) (hl : es.length < 1000000) :
    appendA P t t (bufR s n es) (.sl s k 0 1) m = some (bufR s m.length (es ++ [x]), killE m n es ++ [.row e s (es ++ [x])]) := by
  rw [bufR_snoc]
  cases es with
  | nil => exact append_nil ht hz hu (cont_row hk rfl) (by simp) (by simp; omega) (by simp)
  | cons a r =>
    have hb : ((a :: r).length + [x].length) * by_ ≤ 140737488355328 := by
      have h1 : ((a :: r).length + [x].length) * by_ ≤ 1000001 * 1000 := Nat.mul_le_mul (by simp at hl ⊢; omega) hby
      omega
    have := append_sl (len := (a :: r).length) ht hz hu (cont_row hk rfl) (hm (by simp)) (by simp) hb (by simp at hl ⊢; omega)
    simpa [bufR, killE] using this
theorem bs1 {v : V} (ht : P.underlying t = some (.slice e)) (hz : zeroE P e = some (z, s, by_)) (hv : stys [v] = true) (hl : (cellsOfV v).length = s) (hs : s ≤ 1000) (hc : cellsB v = true) : bsliceV P t 1 [(0, v)] m = some (.sl s m.length 0 1, m ++ [.row e s [cellsOfV v]]) := by
  have h2 : Nat.ble 1 16777216 = true := by decide
  have h3 : frzQ P e m [(0, v)] = some ([(0, v)], m) := frzQ_nf _ _ hv
  have h4 : Nat.ble s 16777216 = true := by simp; omega
  have h5 : Nat.beq s s = true := by simp
  simp [bsliceV, ht, hz, h3, h2, h4, h5, fillE, hc, hl]
end
end Go.Proofs.Ytjjenpdjmcmgbaa
