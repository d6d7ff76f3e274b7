/- Lists, read. No condition. -/
import Derived.Test.YtjjenpdjmcmgbaaDXe
namespace Go.Proofs.Ytjjenpdjmcmgbaa
open Go Ab
set_option linter.unusedSimpArgs false
set_option linter.unusedVariables false
set_option maxRecDepth 20000
/-- What comes of a list's reading before its row is frozen. -/
def LQ {α : Type} (c q ty o s E : Nat) (l : List V) (m : Mem) (C : α → List V) : Option (List α × List Nat) → CR → Prop
  | some t, r => ∃ m' k, r = .ret (.tup []) m' ∧ K2 c q m m' ∧ Cr m' c t.2 ∧ m'[q]? = some (.var ty (l.set o (bufR s k (t.1.map C)))) ∧ (t.1.map C ≠ [] → m'[k]? = some (.row E s (t.1.map C)) ∧ m.length ≤ k)
  | none, r => ∃ m' l', r = .pan wrongV m' ∧ K2 c q m m' ∧ m'[q]? = some (.var ty l') ∧ l'.length = l.length
theorem frz_row {m : Mem} {k E s : Nat} {es : List (List V)} (h : m[k]? = some (.row E s es)) (e : es ≠ []) : frz m (bufR s k es) = some (.isl s es, m.set k .dead) := by
  rw [bufR_cons e]
  have : Nat.ble es.length es.length = true := by simp
  simp [frz, h, this]
theorem LQ_RQ {α : Type} {f : FuncId} {vs : List V} {c q ty o s E : Nat} {l : List V} {m : Mem} {C : α → List V} {p : Option (List α × List Nat)} (hq : q < m.length) (hc : c < m.length) (hqc : q ≠ c) (ho : o < l.length) (h : Snd Try.prog f vs m (LQ c q ty o s E l m C p)) :
    Snd Try.prog f vs m (RQ c q ty l m (cellR l o (p.map fun t => (.isl s (t.1.map C), t.2)))) := by
  refine Snd_frzC h fun r hr => ?_
  cases p with
  | none => exact .inl hr
  | some t =>
    obtain ⟨m', k, rfl, h1, h2, h3, h4⟩ := hr
    have ho' : ∀ v, o < (l.set o v).length := fun v => by simpa using ho
    refine .inr ⟨q, ty, l.set o (bufR s k (t.1.map C)), o, bufR s k (t.1.map C), ?_⟩
    have hqm := (List.getElem?_eq_some_iff.1 h3).1
    have fin : ∀ m2 : Mem, m2[q]? = some (.var ty (l.set o (bufR s k (t.1.map C)))) → K2 c q m m2 → Cr m2 c t.2 → RQ c q ty l m (cellR l o (some (.isl s (t.1.map C), t.2))) (.ret (.tup []) (m2.set q (.var ty ((l.set o (bufR s k (t.1.map C))).set o (.isl s (t.1.map C)))))) := fun m2 g1 g2 g3 => by
      refine ⟨_, rfl, g2.set _, ?_, ?_⟩
      · unfold Cr
        rw [List.getElem?_set_ne hqc]
        exact g3
      · rw [List.getElem?_set_self (List.getElem?_eq_some_iff.1 g1).1, List.set_set]
    have hat : (l.set o (bufR s k (t.1.map C)))[o]? = some (bufR s k (t.1.map C)) := List.getElem?_set_self ho
    rcases Classical.em (t.1.map C = []) with e | e
    · refine ⟨.nils, .isl s [], m', h3, hat, by rw [e]; rfl, h3, .inr ⟨rfl, s, rfl⟩, ?_⟩
      have := fin m' h3 h1 h2
      rw [e] at this ⊢
      simpa only [e, Option.map_some, toM] using this
    · obtain ⟨h5, h6⟩ := h4 e
      have hk1 : k ≠ q := by omega
      have hk2 : k ≠ c := by omega
      have hf : frz m' (bufR s k (t.1.map C)) = some (.isl s (t.1.map C), m'.set k .dead) := frz_row h5 e
      have g1 : (m'.set k .dead)[q]? = some (.var ty (l.set o (bufR s k (t.1.map C)))) := by rw [List.getElem?_set_ne hk1]; exact h3
      exact ⟨.isl s (t.1.map C), .isl s (t.1.map C), m'.set k .dead, h3, hat, hf, g1, .inl rfl, fin _ g1 ⟨by simpa using h1.1, fun n b n1 n2 n3 => by
        rw [List.getElem?_set_ne (by have := (List.getElem?_eq_some_iff.1 n3).1; omega)]
        exact h1.2 n b n1 n2 n3⟩ (by unfold Cr; rw [List.getElem?_set_ne hk2]; exact h2)⟩
/-- The states of memory while one element is put behind. -/
def S1 (M : Mem) (E s : Nat) (x : List V) : Mem := M ++ [.row E s [x]]
def S2 (M : Mem) (E s k : Nat) (es : List (List V)) (x : List V) : Mem := killE (S1 M E s x) k es ++ [.row E s (es ++ [x])]
def S3 (M : Mem) (E s k : Nat) (es : List (List V)) (x : List V) (q ty o : Nat) (l : List V) : Mem := (S2 M E s k es x).set q (.var ty (l.set o (bufR s (M.length + 1) (es ++ [x]))))
def JS (M : Mem) (E s k : Nat) (es : List (List V)) (x : List V) (q ty o : Nat) (l : List V) (i : Nat) (M' : Mem) : Prop := [M, S1 M E s x, S2 M E s k es x, S3 M E s k es x q ty o l][i]? = some M'
theorem S2_len {M : Mem} {E s k : Nat} {es : List (List V)} {x : List V} : (S2 M E s k es x).length = M.length + 2 := by simp [S2, killE_len, S1]
theorem S2_at {M : Mem} {E s k : Nat} {es : List (List V)} {x : List V} {n : Nat} {b : B} (h : M[n]? = some b) (hn : es ≠ [] → n ≠ k) : (S2 M E s k es x)[n]? = some b := by
  have hlt := (List.getElem?_eq_some_iff.1 h).1
  rw [S2, List.getElem?_append_left (by rw [killE_len]; simp [S1]; omega), killE_at hn, S1, List.getElem?_append_left hlt, h]
theorem JS_at {M M' : Mem} {E s k q ty o i n ty' : Nat} {es : List (List V)} {x l c : List V} (hk : es ≠ [] → M[k]? = some (.row E s es)) (h : M[n]? = some (.var ty' c)) (hi : i ≤ 2) (hJ : JS M E s k es x q ty o l i M') : M'[n]? = some (.var ty' c) := by
  have hlt := (List.getElem?_eq_some_iff.1 h).1
  have hnk : es ≠ [] → n ≠ k := fun he e => by
    rw [e, hk he] at h
    cases h
  match i, hi with
  | 0, _ => cases hJ; exact h
  | 1, _ => cases hJ; rw [S1, List.getElem?_append_left hlt]; exact h
  | 2, _ => cases hJ; exact S2_at h hnk
theorem un99L : Try.prog.underlying 99 = some (.slice 123) := by kernel_rfl
theorem ze123L : zeroE Try.prog 123 = some (acz, 3, 16) := by kernel_rfl
theorem is99L : isSliceT Try.prog 99 = true := by kernel_rfl
set_option maxHeartbeats 2000000 in
theorem snd72r0 {α : Type} (C : α → List V) (V0 : α → V) (pe : List Nat → Option (α × List Nat)) {m : Mem} {c q ty o k fid : Nat} {l : List V} {rest : List Nat} (hc : Cr m c rest) (hB : Byt rest) (hq : m[q]? = some (.var ty l)) (hqc : q ≠ c) (ho : l[o]? = some .nils) (he : enterable Try.prog fid = true)
    (hE : ∀ m' q' rest', K2 c q m m' → Cr m' c rest' → Byt rest' → m'[q']? = some (.var 123 acz) → q' ≠ c → m.length ≤ q' → Snd Try.prog fid [.ptr q' 0, .ptr k 0] m' (RQ c q' 123 acz m' ((pe rest').map fun p => (C p.1, p.2))))
    (hP : ∀ r p, Byt r → pe r = some p → Byt p.2) (hC : ∀ a, (C a).length = 3) (hS : ∀ a, stys [V0 a] = true) (hT : ∀ a, partK true 3 (C a) 0 = some (V0 a)) (hX : ∀ a, cellsOfV (V0 a) = C a) (hY : ∀ a, cellsB (V0 a) = true) :
    Snd Try.prog 72 [.ptr c 0, .ptr q o, .fn fid [] [.ptr k 0]] m (LQ c q ty o 3 123 l m C (rdL pe rest)) := by
  refine Snd_of_W fol rfl rfl (by kernel_rfl) (by kernel_rfl) ?_
  have hol : o < l.length := (List.getElem?_eq_some_iff.1 ho).1
  have hnn : ∀ k o, nonnil (.ptr k o) = true := fun _ _ => rfl
  have hql := (List.getElem?_eq_some_iff.1 hq).1
  have hcl := hc.lt
  have a8 : IntKind.u64.wrap 0 = 0 := rfl
  have hs : ∀ (b : B), (m ++ [b])[m.length]? = some b := fun b => by simp
  have hset : ∀ b b' : B, (m ++ [b]).set m.length b' = m ++ [b'] := fun b b' => by simp
  simp -implicitDefEqProofs only [sims.1, fx.1, keeps.1, tick_on, calleeK, nonnil, Nat.reduceEqDiff, Nat.reduceLT, Int.reduceLT, hq, ho, a8, hs, hset]
  refine callD_q (snd31r (n := 2) (hc.app _) (hs _) (by omega) rfl hB.1 hB.2 (by omega) (by omega)) en31 ?_ ?_
  rotate_left
  · rintro v m1 (⟨h1, m', h2, h3, h4, h5⟩ | ⟨h1, m', h2, h3, h4⟩)
    · cases h2
    cases h2
    rw [show rdL pe rest = none from by simp only [rdL, rdN, if_neg (show ¬ 2 ≤ rest.length by omega), Option.bind_none]]
    exact ⟨m1, l, rfl, h3.new (Nat.le_refl _), h3.2 q _ hqc (by omega) (by rw [List.getElem?_append_left hql]; exact hq), rfl⟩
  rintro v m1 (⟨g1, m', g2, k1, c1, g5⟩ | ⟨h1, m', h2, h3, h4⟩)
  rotate_left
  · cases h2
  cases g2
  have e2 : rdN 2 rest = some (beV (rest.take 2), rest.drop 2) := if_pos g1
  have g5 : m1[m.length]? = some (.var 24 [.int .u64 (beV (rest.take 2) : Int)]) := g5
  have hn := beV_lt hB.1 2
  have B1 := hB.drop 2
  generalize beV (rest.take 2) = n at e2 g5 hn
  generalize rest.drop 2 = r1 at e2 c1 B1
  have eL : rdL pe rest = rdMany pe r1 n := by simp only [rdL, e2, Option.bind_some]
  rw [eL]
  have q1 : m1[q]? = some (.var ty l) := k1.2 q _ hqc (by omega) (by rw [List.getElem?_append_left hql]; exact hq)
  have q1l := (List.getElem?_eq_some_iff.1 q1).1
  have c1' : m1[c]? = some (.var 71 [byV r1, .bool true]) := c1
  have s1 : storeK 1 m1 (.ptr q o) .nils = some (m1.set q (.var ty (l.set o .nils))) := by
    rw [storeK_one rfl, q1]
    simp [hol]
  have n6 : (m1.set q (.var ty (l.set o .nils)))[m.length]? = some (.var 24 [.int .u64 (n : Int)]) := by rw [List.getElem?_set_ne (by omega)]; exact g5
  have ev : ∀ env, evO env (.const (.slice none 0 0)) = .nils := fun _ => rfl
  simp -implicitDefEqProofs only [sims.1, fx.1, keeps.1, tick_on, faddrK, nonnil, Nat.reduceEqDiff, c1', ev, s1, n6]
  have k1' : K2 c q m m1 := k1.new (Nat.le_refl _)
  refine W_loopM (fun j : Nat => [(42, V.int .u64 (n : Int)), (2, V.fn fid [] [.ptr k 0]), (1, V.ptr q o), (43, V.int .u64 (j : Int))])
    (fun j M => j ≤ n ∧ ∃ xs rest' kk, rdMany pe r1 j = some (xs, rest') ∧ K2 c q m M ∧ Cr M c rest' ∧ Byt rest' ∧ M[q]? = some (.var ty (l.set o (bufR 3 kk (xs.map C)))) ∧ (xs.map C ≠ [] → M[kk]? = some (.row 123 3 (xs.map C)) ∧ m.length ≤ kk))
    (fun j => n + 1 - j) 0 (by kernel_rfl) ⟨by omega, [], r1, 0, rfl, k1'.set _, by unfold Cr; rw [List.getElem?_set_ne hqc]; exact c1, B1, by rw [List.getElem?_set_self q1l]; rfl, fun h => absurd rfl h⟩ ?_
  rintro j M ⟨h1, xs, rj, kk, h2, h3, h4, h5, h6, h7⟩
  have h4' : M[c]? = some (.var 71 [byV rj, .bool true]) := h4
  rcases Nat.lt_or_ge j n with hj | hj
  rotate_left
  · obtain rfl : j = n := by omega
    have d1 : decide (j < j) = false := by simp
    simp -implicitDefEqProofs only [sims.1, keeps.1, tick_on, Nat.reduceEqDiff, ltNat, d1]
    rw [h2]
    exact ⟨M, kk, rfl, h3, h4, h6, h7⟩
  have d1 : decide (j < n) = true := by simpa using hj
  have w1 : IntKind.u64.wrap ((j : Int) + 1) = ((j + 1 : Nat) : Int) := by rw [IntKind.wrap_u64]; omega
  simp -implicitDefEqProofs only [sims.1, fx.1, keeps.1, tick_on, calleeK, Nat.reduceEqDiff, ltNat, d1]
  have hM : ∀ (b : B), (M ++ [b])[M.length]? = some b := fun b => by simp
  have hMl := h3.1
  refine callD_r (hE _ M.length rj (h3.trans (K2.app M _)) (h4.app _) h5 (hM _) (by omega) hMl) he ?_ ?_
  · rintro l' r' M1 e3 k3 c3 q3
    cases e4 : pe rj with
    | none => rw [e4] at e3; cases e3
    | some a =>
    rw [e4] at e3
    cases e3
    simp -implicitDefEqProofs only [sims.1, tick_on]
    have q6 : M1[q]? = some (.var ty (l.set o (bufR 3 kk (xs.map C)))) := k3.2 q _ hqc (by omega) (by rw [List.getElem?_append_left (List.getElem?_eq_some_iff.1 h6).1]; exact h6)
    have k7 : xs.map C ≠ [] → M1[kk]? = some (.row 123 3 (xs.map C)) := fun hne => by
      have := (h7 hne).1
      refine k3.2 kk _ (fun e => ?_) (by have := (List.getElem?_eq_some_iff.1 this).1; omega) (by rw [List.getElem?_append_left (List.getElem?_eq_some_iff.1 this).1]; exact this)
      rw [e, h4'] at this
      cases this
    have hxl : xs.length = j := rdMany_len h2
    have hx := hC a.1
    have c3' : M1[c]? = some (.var 71 [byV a.2, .bool true]) := c3
    have part := hT a.1
    refine w_calls (JS M1 123 3 kk (xs.map C) (C a.1) q ty o l) [5, 6, 8] [.ptr q o, .ptr q o, .ptr q o, bufR 3 kk (xs.map C), (V0 a.1), .sl 3 M1.length 0 1, bufR 3 (M1.length + 1) (xs.map C ++ [C a.1]), .ptr q o, .tup []] (by kernel_rfl) rfl ?_ ?_
    · refine okN_pure rfl rfl rfl (fun _ _ _ => rfl) ?_
      refine okN_pure rfl rfl rfl (fun _ _ _ => rfl) ?_
      refine okN_pure rfl rfl rfl (fun _ _ _ => rfl) ?_
      refine okN_early 1 rfl rfl rfl rfl (fun i M' hi h => by
        show Option.map (Res.val · M') (loadV Try.prog M' 99 (.ptr q o)) = _
        rw [ld99, loadK_ptr, JS_at k7 q6 (by omega) h]
        simp [partK, hol]) ?_
      refine okN_early 0 rfl rfl rfl rfl (fun i M' hi h => by
        show Option.map (Res.val · M') (loadV Try.prog M' 123 (.ptr M.length 0)) = _
        rw [ld123, loadK_ptr, JS_at k7 q3 (by omega) h]
        simp only [Option.bind_some, part, Option.map_some]) ?_
      refine okN_val rfl rfl rfl rfl (fun M' h => ⟨S1 M1 123 3 (C a.1), ?_, rfl⟩) ?_
      · cases h
        show Option.map (fun p => Res.val p.1 p.2) (bsliceV Try.prog 99 1 [(0, (V0 a.1))] M1) = _
        rw [bs1 un99L ze123L (hS _) (by rw [hX, hx]) (by omega) (hY _), hX]
        rfl
      refine okN_val rfl rfl rfl rfl (fun M' h => ⟨S2 M1 123 3 kk (xs.map C) (C a.1), ?_, rfl⟩) ?_
      · cases h
        show Option.map (fun p => Res.val p.1 p.2) (appendA Try.prog 99 99 (bufR 3 kk (xs.map C)) (.sl 3 M1.length 0 1) (S1 M1 123 3 (C a.1))) = _
        rw [apR (x := C a.1) un99L ze123L is99L (by omega) (by simp [S1]) (fun hl => by rw [S1, List.getElem?_append_left (List.getElem?_eq_some_iff.1 (k7 hl)).1]; exact k7 hl) (by simp; omega)]
        simp [S1, S2]
      refine okN_pure rfl rfl rfl (fun _ _ _ => rfl) ?_
      refine okN_skip rfl rfl rfl rfl (fun M' h => ⟨S3 M1 123 3 kk (xs.map C) (C a.1) q ty o l, ?_, rfl⟩) ?_
      · have hc2 := JS_at k7 q6 (by omega) h
        cases h
        show Option.map Res.skip (storeV Try.prog 99 (S2 M1 123 3 kk (xs.map C) (C a.1)) (.ptr q o) (bufR 3 (M1.length + 1) (xs.map C ++ [C a.1]))) = _
        rw [st99, storeK_one (by rw [bufR_snoc]; rfl), hc2]
        simp [S3, hol]
      exact okN_nil
    · intro M' h
      cases h
      have hkm : xs.map C ≠ [] → m.length ≤ kk := fun h => (h7 h).2
      have hck : xs.map C ≠ [] → c ≠ kk := fun he e => by
        have := k7 he
        rw [← e, c3'] at this
        cases this
      have hq2 := (List.getElem?_eq_some_iff.1 q6).1
      have hmM := (h3.trans (k3.new (Nat.le_refl _))).1
      simp -implicitDefEqProofs only [sims.1, keeps.1, tick_on, Nat.reduceEqDiff, putAll, w1]
      refine ⟨j + 1, by kernel_rfl, ⟨by omega, xs ++ [a.1], a.2, M1.length + 1, ?_, ?_, ?_, hP _ _ h5 e4, ?_, ?_⟩, by omega⟩
      · simp only [rdMany, h2, Option.bind_some, e4, Option.map_some]
      · refine ⟨by rw [S3, List.length_set, S2_len]; omega, fun n' b n1 n2 n3 => ?_⟩
        rw [S3, List.getElem?_set_ne fun h => n2 h.symm]
        have hn' := (List.getElem?_eq_some_iff.1 n3).1
        exact S2_at ((h3.trans (k3.new (Nat.le_refl _))).2 n' b n1 n2 n3) fun he => by have := hkm he; omega
      · unfold Cr
        rw [S3, List.getElem?_set_ne hqc]
        exact S2_at c3' hck
      · rw [S3, List.getElem?_set_self (by rw [S2_len]; omega), List.map_append]
        rfl
      · intro _
        refine ⟨?_, by omega⟩
        rw [S3, List.getElem?_set_ne (by omega), S2, List.getElem?_append_right (by rw [killE_len]; simp [S1]), killE_len, List.map_append]
        simp [S1]
  · rintro l' M1 e3 k3 q3 hl
    cases e4 : pe rj with
    | some a => rw [e4] at e3; cases e3
    | none =>
    have e5 : rdMany pe r1 n = none := rdMany_none (j := j + 1) (by omega) (by simp only [rdMany, h2, Option.bind_some, e4, Option.map_none])
    have hq2 : M1[q]? = some (.var ty (l.set o (bufR 3 kk (xs.map C)))) := k3.2 q _ hqc (by omega) (by rw [List.getElem?_append_left (List.getElem?_eq_some_iff.1 h6).1]; exact h6)
    simp -implicitDefEqProofs only [sims.1, tick_on]
    rw [e5]
    exact ⟨M1, _, rfl, h3.trans (k3.new (Nat.le_refl _)), hq2, by simp⟩
theorem un33L : Try.prog.underlying 33 = some (.slice 32) := by kernel_rfl
theorem ze32L : zeroE Try.prog 32 = some ([.int .u16 0], 1, 2) := by kernel_rfl
theorem is33L : isSliceT Try.prog 33 = true := by kernel_rfl
set_option maxHeartbeats 2000000 in
theorem snd44r0 {α : Type} (C : α → List V) (V0 : α → V) (pe : List Nat → Option (α × List Nat)) {m : Mem} {c q ty o k fid : Nat} {l : List V} {rest : List Nat} (hc : Cr m c rest) (hB : Byt rest) (hq : m[q]? = some (.var ty l)) (hqc : q ≠ c) (ho : l[o]? = some .nils) (he : enterable Try.prog fid = true)
    (hE : ∀ m' q' rest', K2 c q m m' → Cr m' c rest' → Byt rest' → m'[q']? = some (.var 32 [.int .u16 0]) → q' ≠ c → m.length ≤ q' → Snd Try.prog fid [.ptr q' 0, .ptr k 0] m' (RQ c q' 32 [.int .u16 0] m' ((pe rest').map fun p => (C p.1, p.2))))
    (hP : ∀ r p, Byt r → pe r = some p → Byt p.2) (hC : ∀ a, (C a).length = 1) (hS : ∀ a, stys [V0 a] = true) (hT : ∀ a, partK false 1 (C a) 0 = some (V0 a)) (hX : ∀ a, cellsOfV (V0 a) = C a) (hY : ∀ a, cellsB (V0 a) = true) :
    Snd Try.prog 44 [.ptr c 0, .ptr q o, .fn fid [] [.ptr k 0]] m (LQ c q ty o 1 32 l m C (rdL pe rest)) := by
  refine Snd_of_W fol rfl rfl (by kernel_rfl) (by kernel_rfl) ?_
  have hol : o < l.length := (List.getElem?_eq_some_iff.1 ho).1
  have hnn : ∀ k o, nonnil (.ptr k o) = true := fun _ _ => rfl
  have hql := (List.getElem?_eq_some_iff.1 hq).1
  have hcl := hc.lt
  have a8 : IntKind.u64.wrap 0 = 0 := rfl
  have hs : ∀ (b : B), (m ++ [b])[m.length]? = some b := fun b => by simp
  have hset : ∀ b b' : B, (m ++ [b]).set m.length b' = m ++ [b'] := fun b b' => by simp
  simp -implicitDefEqProofs only [sims.1, fx.1, keeps.1, tick_on, calleeK, nonnil, Nat.reduceEqDiff, Nat.reduceLT, Int.reduceLT, hq, ho, a8, hs, hset]
  refine callD_q (snd31r (n := 2) (hc.app _) (hs _) (by omega) rfl hB.1 hB.2 (by omega) (by omega)) en31 ?_ ?_
  rotate_left
  · rintro v m1 (⟨h1, m', h2, h3, h4, h5⟩ | ⟨h1, m', h2, h3, h4⟩)
    · cases h2
    cases h2
    rw [show rdL pe rest = none from by simp only [rdL, rdN, if_neg (show ¬ 2 ≤ rest.length by omega), Option.bind_none]]
    exact ⟨m1, l, rfl, h3.new (Nat.le_refl _), h3.2 q _ hqc (by omega) (by rw [List.getElem?_append_left hql]; exact hq), rfl⟩
  rintro v m1 (⟨g1, m', g2, k1, c1, g5⟩ | ⟨h1, m', h2, h3, h4⟩)
  rotate_left
  · cases h2
  cases g2
  have e2 : rdN 2 rest = some (beV (rest.take 2), rest.drop 2) := if_pos g1
  have g5 : m1[m.length]? = some (.var 24 [.int .u64 (beV (rest.take 2) : Int)]) := g5
  have hn := beV_lt hB.1 2
  have B1 := hB.drop 2
  generalize beV (rest.take 2) = n at e2 g5 hn
  generalize rest.drop 2 = r1 at e2 c1 B1
  have eL : rdL pe rest = rdMany pe r1 n := by simp only [rdL, e2, Option.bind_some]
  rw [eL]
  have q1 : m1[q]? = some (.var ty l) := k1.2 q _ hqc (by omega) (by rw [List.getElem?_append_left hql]; exact hq)
  have q1l := (List.getElem?_eq_some_iff.1 q1).1
  have c1' : m1[c]? = some (.var 71 [byV r1, .bool true]) := c1
  have s1 : storeK 1 m1 (.ptr q o) .nils = some (m1.set q (.var ty (l.set o .nils))) := by
    rw [storeK_one rfl, q1]
    simp [hol]
  have n6 : (m1.set q (.var ty (l.set o .nils)))[m.length]? = some (.var 24 [.int .u64 (n : Int)]) := by rw [List.getElem?_set_ne (by omega)]; exact g5
  have ev : ∀ env, evO env (.const (.slice none 0 0)) = .nils := fun _ => rfl
  simp -implicitDefEqProofs only [sims.1, fx.1, keeps.1, tick_on, faddrK, nonnil, Nat.reduceEqDiff, c1', ev, s1, n6]
  have k1' : K2 c q m m1 := k1.new (Nat.le_refl _)
  refine W_loopM (fun j : Nat => [(42, V.int .u64 (n : Int)), (2, V.fn fid [] [.ptr k 0]), (1, V.ptr q o), (43, V.int .u64 (j : Int))])
    (fun j M => j ≤ n ∧ ∃ xs rest' kk, rdMany pe r1 j = some (xs, rest') ∧ K2 c q m M ∧ Cr M c rest' ∧ Byt rest' ∧ M[q]? = some (.var ty (l.set o (bufR 1 kk (xs.map C)))) ∧ (xs.map C ≠ [] → M[kk]? = some (.row 32 1 (xs.map C)) ∧ m.length ≤ kk))
    (fun j => n + 1 - j) 0 (by kernel_rfl) ⟨by omega, [], r1, 0, rfl, k1'.set _, by unfold Cr; rw [List.getElem?_set_ne hqc]; exact c1, B1, by rw [List.getElem?_set_self q1l]; rfl, fun h => absurd rfl h⟩ ?_
  rintro j M ⟨h1, xs, rj, kk, h2, h3, h4, h5, h6, h7⟩
  have h4' : M[c]? = some (.var 71 [byV rj, .bool true]) := h4
  rcases Nat.lt_or_ge j n with hj | hj
  rotate_left
  · obtain rfl : j = n := by omega
    have d1 : decide (j < j) = false := by simp
    simp -implicitDefEqProofs only [sims.1, keeps.1, tick_on, Nat.reduceEqDiff, ltNat, d1]
    rw [h2]
    exact ⟨M, kk, rfl, h3, h4, h6, h7⟩
  have d1 : decide (j < n) = true := by simpa using hj
  have w1 : IntKind.u64.wrap ((j : Int) + 1) = ((j + 1 : Nat) : Int) := by rw [IntKind.wrap_u64]; omega
  simp -implicitDefEqProofs only [sims.1, fx.1, keeps.1, tick_on, calleeK, Nat.reduceEqDiff, ltNat, d1]
  have hM : ∀ (b : B), (M ++ [b])[M.length]? = some b := fun b => by simp
  have hMl := h3.1
  refine callD_r (hE _ M.length rj (h3.trans (K2.app M _)) (h4.app _) h5 (hM _) (by omega) hMl) he ?_ ?_
  · rintro l' r' M1 e3 k3 c3 q3
    cases e4 : pe rj with
    | none => rw [e4] at e3; cases e3
    | some a =>
    rw [e4] at e3
    cases e3
    simp -implicitDefEqProofs only [sims.1, tick_on]
    have q6 : M1[q]? = some (.var ty (l.set o (bufR 1 kk (xs.map C)))) := k3.2 q _ hqc (by omega) (by rw [List.getElem?_append_left (List.getElem?_eq_some_iff.1 h6).1]; exact h6)
    have k7 : xs.map C ≠ [] → M1[kk]? = some (.row 32 1 (xs.map C)) := fun hne => by
      have := (h7 hne).1
      refine k3.2 kk _ (fun e => ?_) (by have := (List.getElem?_eq_some_iff.1 this).1; omega) (by rw [List.getElem?_append_left (List.getElem?_eq_some_iff.1 this).1]; exact this)
      rw [e, h4'] at this
      cases this
    have hxl : xs.length = j := rdMany_len h2
    have hx := hC a.1
    have c3' : M1[c]? = some (.var 71 [byV a.2, .bool true]) := c3
    have part := hT a.1
    refine w_calls (JS M1 32 1 kk (xs.map C) (C a.1) q ty o l) [5, 6, 8] [.ptr q o, .ptr q o, .ptr q o, bufR 1 kk (xs.map C), (V0 a.1), .sl 1 M1.length 0 1, bufR 1 (M1.length + 1) (xs.map C ++ [C a.1]), .ptr q o, .tup []] (by kernel_rfl) rfl ?_ ?_
    · refine okN_pure rfl rfl rfl (fun _ _ _ => rfl) ?_
      refine okN_pure rfl rfl rfl (fun _ _ _ => rfl) ?_
      refine okN_pure rfl rfl rfl (fun _ _ _ => rfl) ?_
      refine okN_early 1 rfl rfl rfl rfl (fun i M' hi h => by
        show Option.map (Res.val · M') (loadV Try.prog M' 33 (.ptr q o)) = _
        rw [ld33, loadK_ptr, JS_at k7 q6 (by omega) h]
        simp [partK, hol]) ?_
      refine okN_early 0 rfl rfl rfl rfl (fun i M' hi h => by
        show Option.map (Res.val · M') (loadV Try.prog M' 32 (.ptr M.length 0)) = _
        rw [ld32, loadK_ptr, JS_at k7 q3 (by omega) h]
        simp only [Option.bind_some, part, Option.map_some]) ?_
      refine okN_val rfl rfl rfl rfl (fun M' h => ⟨S1 M1 32 1 (C a.1), ?_, rfl⟩) ?_
      · cases h
        show Option.map (fun p => Res.val p.1 p.2) (bsliceV Try.prog 33 1 [(0, (V0 a.1))] M1) = _
        rw [bs1 un33L ze32L (hS _) (by rw [hX, hx]) (by omega) (hY _), hX]
        rfl
      refine okN_val rfl rfl rfl rfl (fun M' h => ⟨S2 M1 32 1 kk (xs.map C) (C a.1), ?_, rfl⟩) ?_
      · cases h
        show Option.map (fun p => Res.val p.1 p.2) (appendA Try.prog 33 33 (bufR 1 kk (xs.map C)) (.sl 1 M1.length 0 1) (S1 M1 32 1 (C a.1))) = _
        rw [apR (x := C a.1) un33L ze32L is33L (by omega) (by simp [S1]) (fun hl => by rw [S1, List.getElem?_append_left (List.getElem?_eq_some_iff.1 (k7 hl)).1]; exact k7 hl) (by simp; omega)]
        simp [S1, S2]
      refine okN_pure rfl rfl rfl (fun _ _ _ => rfl) ?_
      refine okN_skip rfl rfl rfl rfl (fun M' h => ⟨S3 M1 32 1 kk (xs.map C) (C a.1) q ty o l, ?_, rfl⟩) ?_
      · have hc2 := JS_at k7 q6 (by omega) h
        cases h
        show Option.map Res.skip (storeV Try.prog 33 (S2 M1 32 1 kk (xs.map C) (C a.1)) (.ptr q o) (bufR 1 (M1.length + 1) (xs.map C ++ [C a.1]))) = _
        rw [st33, storeK_one (by rw [bufR_snoc]; rfl), hc2]
        simp [S3, hol]
      exact okN_nil
    · intro M' h
      cases h
      have hkm : xs.map C ≠ [] → m.length ≤ kk := fun h => (h7 h).2
      have hck : xs.map C ≠ [] → c ≠ kk := fun he e => by
        have := k7 he
        rw [← e, c3'] at this
        cases this
      have hq2 := (List.getElem?_eq_some_iff.1 q6).1
      have hmM := (h3.trans (k3.new (Nat.le_refl _))).1
      simp -implicitDefEqProofs only [sims.1, keeps.1, tick_on, Nat.reduceEqDiff, putAll, w1]
      refine ⟨j + 1, by kernel_rfl, ⟨by omega, xs ++ [a.1], a.2, M1.length + 1, ?_, ?_, ?_, hP _ _ h5 e4, ?_, ?_⟩, by omega⟩
      · simp only [rdMany, h2, Option.bind_some, e4, Option.map_some]
      · refine ⟨by rw [S3, List.length_set, S2_len]; omega, fun n' b n1 n2 n3 => ?_⟩
        rw [S3, List.getElem?_set_ne fun h => n2 h.symm]
        have hn' := (List.getElem?_eq_some_iff.1 n3).1
        exact S2_at ((h3.trans (k3.new (Nat.le_refl _))).2 n' b n1 n2 n3) fun he => by have := hkm he; omega
      · unfold Cr
        rw [S3, List.getElem?_set_ne hqc]
        exact S2_at c3' hck
      · rw [S3, List.getElem?_set_self (by rw [S2_len]; omega), List.map_append]
        rfl
      · intro _
        refine ⟨?_, by omega⟩
        rw [S3, List.getElem?_set_ne (by omega), S2, List.getElem?_append_right (by rw [killE_len]; simp [S1]), killE_len, List.map_append]
        simp [S1]
  · rintro l' M1 e3 k3 q3 hl
    cases e4 : pe rj with
    | some a => rw [e4] at e3; cases e3
    | none =>
    have e5 : rdMany pe r1 n = none := rdMany_none (j := j + 1) (by omega) (by simp only [rdMany, h2, Option.bind_some, e4, Option.map_none])
    have hq2 : M1[q]? = some (.var ty (l.set o (bufR 1 kk (xs.map C)))) := k3.2 q _ hqc (by omega) (by rw [List.getElem?_append_left (List.getElem?_eq_some_iff.1 h6).1]; exact h6)
    simp -implicitDefEqProofs only [sims.1, tick_on]
    rw [e5]
    exact ⟨M1, _, rfl, h3.trans (k3.new (Nat.le_refl _)), hq2, by simp⟩
theorem un34L : Try.prog.underlying 34 = some (.slice 5) := by kernel_rfl
theorem ze5L : zeroE Try.prog 5 = some ([.int .u8 0], 1, 1) := by kernel_rfl
theorem is34L : isSliceT Try.prog 34 = true := by kernel_rfl
set_option maxHeartbeats 2000000 in
theorem snd47r0 {α : Type} (C : α → List V) (V0 : α → V) (pe : List Nat → Option (α × List Nat)) {m : Mem} {c q ty o k fid : Nat} {l : List V} {rest : List Nat} (hc : Cr m c rest) (hB : Byt rest) (hq : m[q]? = some (.var ty l)) (hqc : q ≠ c) (ho : l[o]? = some .nils) (he : enterable Try.prog fid = true)
    (hE : ∀ m' q' rest', K2 c q m m' → Cr m' c rest' → Byt rest' → m'[q']? = some (.var 5 [.int .u8 0]) → q' ≠ c → m.length ≤ q' → Snd Try.prog fid [.ptr q' 0, .ptr k 0] m' (RQ c q' 5 [.int .u8 0] m' ((pe rest').map fun p => (C p.1, p.2))))
    (hP : ∀ r p, Byt r → pe r = some p → Byt p.2) (hC : ∀ a, (C a).length = 1) (hS : ∀ a, stys [V0 a] = true) (hT : ∀ a, partK false 1 (C a) 0 = some (V0 a)) (hX : ∀ a, cellsOfV (V0 a) = C a) (hY : ∀ a, cellsB (V0 a) = true) :
    Snd Try.prog 47 [.ptr c 0, .ptr q o, .fn fid [] [.ptr k 0]] m (LQ c q ty o 1 5 l m C (rdL pe rest)) := by
  refine Snd_of_W fol rfl rfl (by kernel_rfl) (by kernel_rfl) ?_
  have hol : o < l.length := (List.getElem?_eq_some_iff.1 ho).1
  have hnn : ∀ k o, nonnil (.ptr k o) = true := fun _ _ => rfl
  have hql := (List.getElem?_eq_some_iff.1 hq).1
  have hcl := hc.lt
  have a8 : IntKind.u64.wrap 0 = 0 := rfl
  have hs : ∀ (b : B), (m ++ [b])[m.length]? = some b := fun b => by simp
  have hset : ∀ b b' : B, (m ++ [b]).set m.length b' = m ++ [b'] := fun b b' => by simp
  simp -implicitDefEqProofs only [sims.1, fx.1, keeps.1, tick_on, calleeK, nonnil, Nat.reduceEqDiff, Nat.reduceLT, Int.reduceLT, hq, ho, a8, hs, hset]
  refine callD_q (snd31r (n := 2) (hc.app _) (hs _) (by omega) rfl hB.1 hB.2 (by omega) (by omega)) en31 ?_ ?_
  rotate_left
  · rintro v m1 (⟨h1, m', h2, h3, h4, h5⟩ | ⟨h1, m', h2, h3, h4⟩)
    · cases h2
    cases h2
    rw [show rdL pe rest = none from by simp only [rdL, rdN, if_neg (show ¬ 2 ≤ rest.length by omega), Option.bind_none]]
    exact ⟨m1, l, rfl, h3.new (Nat.le_refl _), h3.2 q _ hqc (by omega) (by rw [List.getElem?_append_left hql]; exact hq), rfl⟩
  rintro v m1 (⟨g1, m', g2, k1, c1, g5⟩ | ⟨h1, m', h2, h3, h4⟩)
  rotate_left
  · cases h2
  cases g2
  have e2 : rdN 2 rest = some (beV (rest.take 2), rest.drop 2) := if_pos g1
  have g5 : m1[m.length]? = some (.var 24 [.int .u64 (beV (rest.take 2) : Int)]) := g5
  have hn := beV_lt hB.1 2
  have B1 := hB.drop 2
  generalize beV (rest.take 2) = n at e2 g5 hn
  generalize rest.drop 2 = r1 at e2 c1 B1
  have eL : rdL pe rest = rdMany pe r1 n := by simp only [rdL, e2, Option.bind_some]
  rw [eL]
  have q1 : m1[q]? = some (.var ty l) := k1.2 q _ hqc (by omega) (by rw [List.getElem?_append_left hql]; exact hq)
  have q1l := (List.getElem?_eq_some_iff.1 q1).1
  have c1' : m1[c]? = some (.var 71 [byV r1, .bool true]) := c1
  have s1 : storeK 1 m1 (.ptr q o) .nils = some (m1.set q (.var ty (l.set o .nils))) := by
    rw [storeK_one rfl, q1]
    simp [hol]
  have n6 : (m1.set q (.var ty (l.set o .nils)))[m.length]? = some (.var 24 [.int .u64 (n : Int)]) := by rw [List.getElem?_set_ne (by omega)]; exact g5
  have ev : ∀ env, evO env (.const (.slice none 0 0)) = .nils := fun _ => rfl
  simp -implicitDefEqProofs only [sims.1, fx.1, keeps.1, tick_on, faddrK, nonnil, Nat.reduceEqDiff, c1', ev, s1, n6]
  have k1' : K2 c q m m1 := k1.new (Nat.le_refl _)
  refine W_loopM (fun j : Nat => [(42, V.int .u64 (n : Int)), (2, V.fn fid [] [.ptr k 0]), (1, V.ptr q o), (43, V.int .u64 (j : Int))])
    (fun j M => j ≤ n ∧ ∃ xs rest' kk, rdMany pe r1 j = some (xs, rest') ∧ K2 c q m M ∧ Cr M c rest' ∧ Byt rest' ∧ M[q]? = some (.var ty (l.set o (bufR 1 kk (xs.map C)))) ∧ (xs.map C ≠ [] → M[kk]? = some (.row 5 1 (xs.map C)) ∧ m.length ≤ kk))
    (fun j => n + 1 - j) 0 (by kernel_rfl) ⟨by omega, [], r1, 0, rfl, k1'.set _, by unfold Cr; rw [List.getElem?_set_ne hqc]; exact c1, B1, by rw [List.getElem?_set_self q1l]; rfl, fun h => absurd rfl h⟩ ?_
  rintro j M ⟨h1, xs, rj, kk, h2, h3, h4, h5, h6, h7⟩
  have h4' : M[c]? = some (.var 71 [byV rj, .bool true]) := h4
  rcases Nat.lt_or_ge j n with hj | hj
  rotate_left
  · obtain rfl : j = n := by omega
    have d1 : decide (j < j) = false := by simp
    simp -implicitDefEqProofs only [sims.1, keeps.1, tick_on, Nat.reduceEqDiff, ltNat, d1]
    rw [h2]
    exact ⟨M, kk, rfl, h3, h4, h6, h7⟩
  have d1 : decide (j < n) = true := by simpa using hj
  have w1 : IntKind.u64.wrap ((j : Int) + 1) = ((j + 1 : Nat) : Int) := by rw [IntKind.wrap_u64]; omega
  simp -implicitDefEqProofs only [sims.1, fx.1, keeps.1, tick_on, calleeK, Nat.reduceEqDiff, ltNat, d1]
  have hM : ∀ (b : B), (M ++ [b])[M.length]? = some b := fun b => by simp
  have hMl := h3.1
  refine callD_r (hE _ M.length rj (h3.trans (K2.app M _)) (h4.app _) h5 (hM _) (by omega) hMl) he ?_ ?_
  · rintro l' r' M1 e3 k3 c3 q3
    cases e4 : pe rj with
    | none => rw [e4] at e3; cases e3
    | some a =>
    rw [e4] at e3
    cases e3
    simp -implicitDefEqProofs only [sims.1, tick_on]
    have q6 : M1[q]? = some (.var ty (l.set o (bufR 1 kk (xs.map C)))) := k3.2 q _ hqc (by omega) (by rw [List.getElem?_append_left (List.getElem?_eq_some_iff.1 h6).1]; exact h6)
    have k7 : xs.map C ≠ [] → M1[kk]? = some (.row 5 1 (xs.map C)) := fun hne => by
      have := (h7 hne).1
      refine k3.2 kk _ (fun e => ?_) (by have := (List.getElem?_eq_some_iff.1 this).1; omega) (by rw [List.getElem?_append_left (List.getElem?_eq_some_iff.1 this).1]; exact this)
      rw [e, h4'] at this
      cases this
    have hxl : xs.length = j := rdMany_len h2
    have hx := hC a.1
    have c3' : M1[c]? = some (.var 71 [byV a.2, .bool true]) := c3
    have part := hT a.1
    refine w_calls (JS M1 5 1 kk (xs.map C) (C a.1) q ty o l) [5, 6, 8] [.ptr q o, .ptr q o, .ptr q o, bufR 1 kk (xs.map C), (V0 a.1), .sl 1 M1.length 0 1, bufR 1 (M1.length + 1) (xs.map C ++ [C a.1]), .ptr q o, .tup []] (by kernel_rfl) rfl ?_ ?_
    · refine okN_pure rfl rfl rfl (fun _ _ _ => rfl) ?_
      refine okN_pure rfl rfl rfl (fun _ _ _ => rfl) ?_
      refine okN_pure rfl rfl rfl (fun _ _ _ => rfl) ?_
      refine okN_early 1 rfl rfl rfl rfl (fun i M' hi h => by
        show Option.map (Res.val · M') (loadV Try.prog M' 34 (.ptr q o)) = _
        rw [ld34, loadK_ptr, JS_at k7 q6 (by omega) h]
        simp [partK, hol]) ?_
      refine okN_early 0 rfl rfl rfl rfl (fun i M' hi h => by
        show Option.map (Res.val · M') (loadV Try.prog M' 5 (.ptr M.length 0)) = _
        rw [ld5, loadK_ptr, JS_at k7 q3 (by omega) h]
        simp only [Option.bind_some, part, Option.map_some]) ?_
      refine okN_val rfl rfl rfl rfl (fun M' h => ⟨S1 M1 5 1 (C a.1), ?_, rfl⟩) ?_
      · cases h
        show Option.map (fun p => Res.val p.1 p.2) (bsliceV Try.prog 34 1 [(0, (V0 a.1))] M1) = _
        rw [bs1 un34L ze5L (hS _) (by rw [hX, hx]) (by omega) (hY _), hX]
        rfl
      refine okN_val rfl rfl rfl rfl (fun M' h => ⟨S2 M1 5 1 kk (xs.map C) (C a.1), ?_, rfl⟩) ?_
      · cases h
        show Option.map (fun p => Res.val p.1 p.2) (appendA Try.prog 34 34 (bufR 1 kk (xs.map C)) (.sl 1 M1.length 0 1) (S1 M1 5 1 (C a.1))) = _
        rw [apR (x := C a.1) un34L ze5L is34L (by omega) (by simp [S1]) (fun hl => by rw [S1, List.getElem?_append_left (List.getElem?_eq_some_iff.1 (k7 hl)).1]; exact k7 hl) (by simp; omega)]
        simp [S1, S2]
      refine okN_pure rfl rfl rfl (fun _ _ _ => rfl) ?_
      refine okN_skip rfl rfl rfl rfl (fun M' h => ⟨S3 M1 5 1 kk (xs.map C) (C a.1) q ty o l, ?_, rfl⟩) ?_
      · have hc2 := JS_at k7 q6 (by omega) h
        cases h
        show Option.map Res.skip (storeV Try.prog 34 (S2 M1 5 1 kk (xs.map C) (C a.1)) (.ptr q o) (bufR 1 (M1.length + 1) (xs.map C ++ [C a.1]))) = _
        rw [st34, storeK_one (by rw [bufR_snoc]; rfl), hc2]
        simp [S3, hol]
      exact okN_nil
    · intro M' h
      cases h
      have hkm : xs.map C ≠ [] → m.length ≤ kk := fun h => (h7 h).2
      have hck : xs.map C ≠ [] → c ≠ kk := fun he e => by
        have := k7 he
        rw [← e, c3'] at this
        cases this
      have hq2 := (List.getElem?_eq_some_iff.1 q6).1
      have hmM := (h3.trans (k3.new (Nat.le_refl _))).1
      simp -implicitDefEqProofs only [sims.1, keeps.1, tick_on, Nat.reduceEqDiff, putAll, w1]
      refine ⟨j + 1, by kernel_rfl, ⟨by omega, xs ++ [a.1], a.2, M1.length + 1, ?_, ?_, ?_, hP _ _ h5 e4, ?_, ?_⟩, by omega⟩
      · simp only [rdMany, h2, Option.bind_some, e4, Option.map_some]
      · refine ⟨by rw [S3, List.length_set, S2_len]; omega, fun n' b n1 n2 n3 => ?_⟩
        rw [S3, List.getElem?_set_ne fun h => n2 h.symm]
        have hn' := (List.getElem?_eq_some_iff.1 n3).1
        exact S2_at ((h3.trans (k3.new (Nat.le_refl _))).2 n' b n1 n2 n3) fun he => by have := hkm he; omega
      · unfold Cr
        rw [S3, List.getElem?_set_ne hqc]
        exact S2_at c3' hck
      · rw [S3, List.getElem?_set_self (by rw [S2_len]; omega), List.map_append]
        rfl
      · intro _
        refine ⟨?_, by omega⟩
        rw [S3, List.getElem?_set_ne (by omega), S2, List.getElem?_append_right (by rw [killE_len]; simp [S1]), killE_len, List.map_append]
        simp [S1]
  · rintro l' M1 e3 k3 q3 hl
    cases e4 : pe rj with
    | some a => rw [e4] at e3; cases e3
    | none =>
    have e5 : rdMany pe r1 n = none := rdMany_none (j := j + 1) (by omega) (by simp only [rdMany, h2, Option.bind_some, e4, Option.map_none])
    have hq2 : M1[q]? = some (.var ty (l.set o (bufR 1 kk (xs.map C)))) := k3.2 q _ hqc (by omega) (by rw [List.getElem?_append_left (List.getElem?_eq_some_iff.1 h6).1]; exact h6)
    simp -implicitDefEqProofs only [sims.1, tick_on]
    rw [e5]
    exact ⟨M1, _, rfl, h3.trans (k3.new (Nat.le_refl _)), hq2, by simp⟩
theorem un29L : Try.prog.underlying 29 = some (.slice 99) := by kernel_rfl
theorem ze99L : zeroE Try.prog 99 = some ([.nils], 1, 24) := by kernel_rfl
theorem is29L : isSliceT Try.prog 29 = true := by kernel_rfl
set_option maxHeartbeats 2000000 in
theorem snd70r0 {α : Type} (C : α → List V) (V0 : α → V) (pe : List Nat → Option (α × List Nat)) {m : Mem} {c q ty o k fid : Nat} {l : List V} {rest : List Nat} (hc : Cr m c rest) (hB : Byt rest) (hq : m[q]? = some (.var ty l)) (hqc : q ≠ c) (ho : l[o]? = some .nils) (he : enterable Try.prog fid = true)
    (hE : ∀ m' q' rest', K2 c q m m' → Cr m' c rest' → Byt rest' → m'[q']? = some (.var 99 [.nils]) → q' ≠ c → m.length ≤ q' → Snd Try.prog fid [.ptr q' 0, .ptr k 0] m' (RQ c q' 99 [.nils] m' ((pe rest').map fun p => (C p.1, p.2))))
    (hP : ∀ r p, Byt r → pe r = some p → Byt p.2) (hC : ∀ a, (C a).length = 1) (hS : ∀ a, stys [V0 a] = true) (hT : ∀ a, partK false 1 (C a) 0 = some (V0 a)) (hX : ∀ a, cellsOfV (V0 a) = C a) (hY : ∀ a, cellsB (V0 a) = true) :
    Snd Try.prog 70 [.ptr c 0, .ptr q o, .fn fid [] [.ptr k 0]] m (LQ c q ty o 1 99 l m C (rdL pe rest)) := by
  refine Snd_of_W fol rfl rfl (by kernel_rfl) (by kernel_rfl) ?_
  have hol : o < l.length := (List.getElem?_eq_some_iff.1 ho).1
  have hnn : ∀ k o, nonnil (.ptr k o) = true := fun _ _ => rfl
  have hql := (List.getElem?_eq_some_iff.1 hq).1
  have hcl := hc.lt
  have a8 : IntKind.u64.wrap 0 = 0 := rfl
  have hs : ∀ (b : B), (m ++ [b])[m.length]? = some b := fun b => by simp
  have hset : ∀ b b' : B, (m ++ [b]).set m.length b' = m ++ [b'] := fun b b' => by simp
  simp -implicitDefEqProofs only [sims.1, fx.1, keeps.1, tick_on, calleeK, nonnil, Nat.reduceEqDiff, Nat.reduceLT, Int.reduceLT, hq, ho, a8, hs, hset]
  refine callD_q (snd31r (n := 2) (hc.app _) (hs _) (by omega) rfl hB.1 hB.2 (by omega) (by omega)) en31 ?_ ?_
  rotate_left
  · rintro v m1 (⟨h1, m', h2, h3, h4, h5⟩ | ⟨h1, m', h2, h3, h4⟩)
    · cases h2
    cases h2
    rw [show rdL pe rest = none from by simp only [rdL, rdN, if_neg (show ¬ 2 ≤ rest.length by omega), Option.bind_none]]
    exact ⟨m1, l, rfl, h3.new (Nat.le_refl _), h3.2 q _ hqc (by omega) (by rw [List.getElem?_append_left hql]; exact hq), rfl⟩
  rintro v m1 (⟨g1, m', g2, k1, c1, g5⟩ | ⟨h1, m', h2, h3, h4⟩)
  rotate_left
  · cases h2
  cases g2
  have e2 : rdN 2 rest = some (beV (rest.take 2), rest.drop 2) := if_pos g1
  have g5 : m1[m.length]? = some (.var 24 [.int .u64 (beV (rest.take 2) : Int)]) := g5
  have hn := beV_lt hB.1 2
  have B1 := hB.drop 2
  generalize beV (rest.take 2) = n at e2 g5 hn
  generalize rest.drop 2 = r1 at e2 c1 B1
  have eL : rdL pe rest = rdMany pe r1 n := by simp only [rdL, e2, Option.bind_some]
  rw [eL]
  have q1 : m1[q]? = some (.var ty l) := k1.2 q _ hqc (by omega) (by rw [List.getElem?_append_left hql]; exact hq)
  have q1l := (List.getElem?_eq_some_iff.1 q1).1
  have c1' : m1[c]? = some (.var 71 [byV r1, .bool true]) := c1
  have s1 : storeK 1 m1 (.ptr q o) .nils = some (m1.set q (.var ty (l.set o .nils))) := by
    rw [storeK_one rfl, q1]
    simp [hol]
  have n6 : (m1.set q (.var ty (l.set o .nils)))[m.length]? = some (.var 24 [.int .u64 (n : Int)]) := by rw [List.getElem?_set_ne (by omega)]; exact g5
  have ev : ∀ env, evO env (.const (.slice none 0 0)) = .nils := fun _ => rfl
  simp -implicitDefEqProofs only [sims.1, fx.1, keeps.1, tick_on, faddrK, nonnil, Nat.reduceEqDiff, c1', ev, s1, n6]
  have k1' : K2 c q m m1 := k1.new (Nat.le_refl _)
  refine W_loopM (fun j : Nat => [(42, V.int .u64 (n : Int)), (2, V.fn fid [] [.ptr k 0]), (1, V.ptr q o), (43, V.int .u64 (j : Int))])
    (fun j M => j ≤ n ∧ ∃ xs rest' kk, rdMany pe r1 j = some (xs, rest') ∧ K2 c q m M ∧ Cr M c rest' ∧ Byt rest' ∧ M[q]? = some (.var ty (l.set o (bufR 1 kk (xs.map C)))) ∧ (xs.map C ≠ [] → M[kk]? = some (.row 99 1 (xs.map C)) ∧ m.length ≤ kk))
    (fun j => n + 1 - j) 0 (by kernel_rfl) ⟨by omega, [], r1, 0, rfl, k1'.set _, by unfold Cr; rw [List.getElem?_set_ne hqc]; exact c1, B1, by rw [List.getElem?_set_self q1l]; rfl, fun h => absurd rfl h⟩ ?_
  rintro j M ⟨h1, xs, rj, kk, h2, h3, h4, h5, h6, h7⟩
  have h4' : M[c]? = some (.var 71 [byV rj, .bool true]) := h4
  rcases Nat.lt_or_ge j n with hj | hj
  rotate_left
  · obtain rfl : j = n := by omega
    have d1 : decide (j < j) = false := by simp
    simp -implicitDefEqProofs only [sims.1, keeps.1, tick_on, Nat.reduceEqDiff, ltNat, d1]
    rw [h2]
    exact ⟨M, kk, rfl, h3, h4, h6, h7⟩
  have d1 : decide (j < n) = true := by simpa using hj
  have w1 : IntKind.u64.wrap ((j : Int) + 1) = ((j + 1 : Nat) : Int) := by rw [IntKind.wrap_u64]; omega
  simp -implicitDefEqProofs only [sims.1, fx.1, keeps.1, tick_on, calleeK, Nat.reduceEqDiff, ltNat, d1]
  have hM : ∀ (b : B), (M ++ [b])[M.length]? = some b := fun b => by simp
  have hMl := h3.1
  refine callD_r (hE _ M.length rj (h3.trans (K2.app M _)) (h4.app _) h5 (hM _) (by omega) hMl) he ?_ ?_
  · rintro l' r' M1 e3 k3 c3 q3
    cases e4 : pe rj with
    | none => rw [e4] at e3; cases e3
    | some a =>
    rw [e4] at e3
    cases e3
    simp -implicitDefEqProofs only [sims.1, tick_on]
    have q6 : M1[q]? = some (.var ty (l.set o (bufR 1 kk (xs.map C)))) := k3.2 q _ hqc (by omega) (by rw [List.getElem?_append_left (List.getElem?_eq_some_iff.1 h6).1]; exact h6)
    have k7 : xs.map C ≠ [] → M1[kk]? = some (.row 99 1 (xs.map C)) := fun hne => by
      have := (h7 hne).1
      refine k3.2 kk _ (fun e => ?_) (by have := (List.getElem?_eq_some_iff.1 this).1; omega) (by rw [List.getElem?_append_left (List.getElem?_eq_some_iff.1 this).1]; exact this)
      rw [e, h4'] at this
      cases this
    have hxl : xs.length = j := rdMany_len h2
    have hx := hC a.1
    have c3' : M1[c]? = some (.var 71 [byV a.2, .bool true]) := c3
    have part := hT a.1
    refine w_calls (JS M1 99 1 kk (xs.map C) (C a.1) q ty o l) [5, 6, 8] [.ptr q o, .ptr q o, .ptr q o, bufR 1 kk (xs.map C), (V0 a.1), .sl 1 M1.length 0 1, bufR 1 (M1.length + 1) (xs.map C ++ [C a.1]), .ptr q o, .tup []] (by kernel_rfl) rfl ?_ ?_
    · refine okN_pure rfl rfl rfl (fun _ _ _ => rfl) ?_
      refine okN_pure rfl rfl rfl (fun _ _ _ => rfl) ?_
      refine okN_pure rfl rfl rfl (fun _ _ _ => rfl) ?_
      refine okN_early 1 rfl rfl rfl rfl (fun i M' hi h => by
        show Option.map (Res.val · M') (loadV Try.prog M' 29 (.ptr q o)) = _
        rw [ld29, loadK_ptr, JS_at k7 q6 (by omega) h]
        simp [partK, hol]) ?_
      refine okN_early 0 rfl rfl rfl rfl (fun i M' hi h => by
        show Option.map (Res.val · M') (loadV Try.prog M' 99 (.ptr M.length 0)) = _
        rw [ld99, loadK_ptr, JS_at k7 q3 (by omega) h]
        simp only [Option.bind_some, part, Option.map_some]) ?_
      refine okN_val rfl rfl rfl rfl (fun M' h => ⟨S1 M1 99 1 (C a.1), ?_, rfl⟩) ?_
      · cases h
        show Option.map (fun p => Res.val p.1 p.2) (bsliceV Try.prog 29 1 [(0, (V0 a.1))] M1) = _
        rw [bs1 un29L ze99L (hS _) (by rw [hX, hx]) (by omega) (hY _), hX]
        rfl
      refine okN_val rfl rfl rfl rfl (fun M' h => ⟨S2 M1 99 1 kk (xs.map C) (C a.1), ?_, rfl⟩) ?_
      · cases h
        show Option.map (fun p => Res.val p.1 p.2) (appendA Try.prog 29 29 (bufR 1 kk (xs.map C)) (.sl 1 M1.length 0 1) (S1 M1 99 1 (C a.1))) = _
        rw [apR (x := C a.1) un29L ze99L is29L (by omega) (by simp [S1]) (fun hl => by rw [S1, List.getElem?_append_left (List.getElem?_eq_some_iff.1 (k7 hl)).1]; exact k7 hl) (by simp; omega)]
        simp [S1, S2]
      refine okN_pure rfl rfl rfl (fun _ _ _ => rfl) ?_
      refine okN_skip rfl rfl rfl rfl (fun M' h => ⟨S3 M1 99 1 kk (xs.map C) (C a.1) q ty o l, ?_, rfl⟩) ?_
      · have hc2 := JS_at k7 q6 (by omega) h
        cases h
        show Option.map Res.skip (storeV Try.prog 29 (S2 M1 99 1 kk (xs.map C) (C a.1)) (.ptr q o) (bufR 1 (M1.length + 1) (xs.map C ++ [C a.1]))) = _
        rw [st29, storeK_one (by rw [bufR_snoc]; rfl), hc2]
        simp [S3, hol]
      exact okN_nil
    · intro M' h
      cases h
      have hkm : xs.map C ≠ [] → m.length ≤ kk := fun h => (h7 h).2
      have hck : xs.map C ≠ [] → c ≠ kk := fun he e => by
        have := k7 he
        rw [← e, c3'] at this
        cases this
      have hq2 := (List.getElem?_eq_some_iff.1 q6).1
      have hmM := (h3.trans (k3.new (Nat.le_refl _))).1
      simp -implicitDefEqProofs only [sims.1, keeps.1, tick_on, Nat.reduceEqDiff, putAll, w1]
      refine ⟨j + 1, by kernel_rfl, ⟨by omega, xs ++ [a.1], a.2, M1.length + 1, ?_, ?_, ?_, hP _ _ h5 e4, ?_, ?_⟩, by omega⟩
      · simp only [rdMany, h2, Option.bind_some, e4, Option.map_some]
      · refine ⟨by rw [S3, List.length_set, S2_len]; omega, fun n' b n1 n2 n3 => ?_⟩
        rw [S3, List.getElem?_set_ne fun h => n2 h.symm]
        have hn' := (List.getElem?_eq_some_iff.1 n3).1
        exact S2_at ((h3.trans (k3.new (Nat.le_refl _))).2 n' b n1 n2 n3) fun he => by have := hkm he; omega
      · unfold Cr
        rw [S3, List.getElem?_set_ne hqc]
        exact S2_at c3' hck
      · rw [S3, List.getElem?_set_self (by rw [S2_len]; omega), List.map_append]
        rfl
      · intro _
        refine ⟨?_, by omega⟩
        rw [S3, List.getElem?_set_ne (by omega), S2, List.getElem?_append_right (by rw [killE_len]; simp [S1]), killE_len, List.map_append]
        simp [S1]
  · rintro l' M1 e3 k3 q3 hl
    cases e4 : pe rj with
    | some a => rw [e4] at e3; cases e3
    | none =>
    have e5 : rdMany pe r1 n = none := rdMany_none (j := j + 1) (by omega) (by simp only [rdMany, h2, Option.bind_some, e4, Option.map_none])
    have hq2 : M1[q]? = some (.var ty (l.set o (bufR 1 kk (xs.map C)))) := k3.2 q _ hqc (by omega) (by rw [List.getElem?_append_left (List.getElem?_eq_some_iff.1 h6).1]; exact h6)
    simp -implicitDefEqProofs only [sims.1, tick_on]
    rw [e5]
    exact ⟨M1, _, rfl, h3.trans (k3.new (Nat.le_refl _)), hq2, by simp⟩
theorem un35L : Try.prog.underlying 35 = some (.slice 59) := by kernel_rfl
theorem ze59L : zeroE Try.prog 59 = some ([.int .i64 0, .int .u64 0, .int .u64 0, .int .u64 0, .int .u64 0, .int .u64 0, .int .u64 0, .int .u64 0, .int .u64 0, .int .u64 0, .int .u64 0, .int .u64 0, .int .u64 0, .int .u64 0, .int .u64 0, .int .u64 0, .int .u64 0, .int .u64 0, .int .u64 0, .int .u64 0, .int .u64 0, .int .u64 0, .int .u64 0, .nils, .int .u64 0, .int .u64 0, .int .u64 0], 27, 232) := by kernel_rfl
theorem is35L : isSliceT Try.prog 35 = true := by kernel_rfl
set_option maxHeartbeats 2000000 in
theorem snd55r0 {α : Type} (C : α → List V) (V0 : α → V) (pe : List Nat → Option (α × List Nat)) {m : Mem} {c q ty o k fid : Nat} {l : List V} {rest : List Nat} (hc : Cr m c rest) (hB : Byt rest) (hq : m[q]? = some (.var ty l)) (hqc : q ≠ c) (ho : l[o]? = some .nils) (he : enterable Try.prog fid = true)
    (hE : ∀ m' q' rest', K2 c q m m' → Cr m' c rest' → Byt rest' → m'[q']? = some (.var 59 [.int .i64 0, .int .u64 0, .int .u64 0, .int .u64 0, .int .u64 0, .int .u64 0, .int .u64 0, .int .u64 0, .int .u64 0, .int .u64 0, .int .u64 0, .int .u64 0, .int .u64 0, .int .u64 0, .int .u64 0, .int .u64 0, .int .u64 0, .int .u64 0, .int .u64 0, .int .u64 0, .int .u64 0, .int .u64 0, .int .u64 0, .nils, .int .u64 0, .int .u64 0, .int .u64 0]) → q' ≠ c → m.length ≤ q' → Snd Try.prog fid [.ptr q' 0, .ptr k 0] m' (RQ c q' 59 [.int .i64 0, .int .u64 0, .int .u64 0, .int .u64 0, .int .u64 0, .int .u64 0, .int .u64 0, .int .u64 0, .int .u64 0, .int .u64 0, .int .u64 0, .int .u64 0, .int .u64 0, .int .u64 0, .int .u64 0, .int .u64 0, .int .u64 0, .int .u64 0, .int .u64 0, .int .u64 0, .int .u64 0, .int .u64 0, .int .u64 0, .nils, .int .u64 0, .int .u64 0, .int .u64 0] m' ((pe rest').map fun p => (C p.1, p.2))))
    (hP : ∀ r p, Byt r → pe r = some p → Byt p.2) (hC : ∀ a, (C a).length = 27) (hS : ∀ a, stys [V0 a] = true) (hT : ∀ a, partK true 27 (C a) 0 = some (V0 a)) (hX : ∀ a, cellsOfV (V0 a) = C a) (hY : ∀ a, cellsB (V0 a) = true) :
    Snd Try.prog 55 [.ptr c 0, .ptr q o, .fn fid [] [.ptr k 0]] m (LQ c q ty o 27 59 l m C (rdL pe rest)) := by
  refine Snd_of_W fol rfl rfl (by kernel_rfl) (by kernel_rfl) ?_
  have hol : o < l.length := (List.getElem?_eq_some_iff.1 ho).1
  have hnn : ∀ k o, nonnil (.ptr k o) = true := fun _ _ => rfl
  have hql := (List.getElem?_eq_some_iff.1 hq).1
  have hcl := hc.lt
  have a8 : IntKind.u64.wrap 0 = 0 := rfl
  have hs : ∀ (b : B), (m ++ [b])[m.length]? = some b := fun b => by simp
  have hset : ∀ b b' : B, (m ++ [b]).set m.length b' = m ++ [b'] := fun b b' => by simp
  simp -implicitDefEqProofs only [sims.1, fx.1, keeps.1, tick_on, calleeK, nonnil, Nat.reduceEqDiff, Nat.reduceLT, Int.reduceLT, hq, ho, a8, hs, hset]
  refine callD_q (snd31r (n := 2) (hc.app _) (hs _) (by omega) rfl hB.1 hB.2 (by omega) (by omega)) en31 ?_ ?_
  rotate_left
  · rintro v m1 (⟨h1, m', h2, h3, h4, h5⟩ | ⟨h1, m', h2, h3, h4⟩)
    · cases h2
    cases h2
    rw [show rdL pe rest = none from by simp only [rdL, rdN, if_neg (show ¬ 2 ≤ rest.length by omega), Option.bind_none]]
    exact ⟨m1, l, rfl, h3.new (Nat.le_refl _), h3.2 q _ hqc (by omega) (by rw [List.getElem?_append_left hql]; exact hq), rfl⟩
  rintro v m1 (⟨g1, m', g2, k1, c1, g5⟩ | ⟨h1, m', h2, h3, h4⟩)
  rotate_left
  · cases h2
  cases g2
  have e2 : rdN 2 rest = some (beV (rest.take 2), rest.drop 2) := if_pos g1
  have g5 : m1[m.length]? = some (.var 24 [.int .u64 (beV (rest.take 2) : Int)]) := g5
  have hn := beV_lt hB.1 2
  have B1 := hB.drop 2
  generalize beV (rest.take 2) = n at e2 g5 hn
  generalize rest.drop 2 = r1 at e2 c1 B1
  have eL : rdL pe rest = rdMany pe r1 n := by simp only [rdL, e2, Option.bind_some]
  rw [eL]
  have q1 : m1[q]? = some (.var ty l) := k1.2 q _ hqc (by omega) (by rw [List.getElem?_append_left hql]; exact hq)
  have q1l := (List.getElem?_eq_some_iff.1 q1).1
  have c1' : m1[c]? = some (.var 71 [byV r1, .bool true]) := c1
  have s1 : storeK 1 m1 (.ptr q o) .nils = some (m1.set q (.var ty (l.set o .nils))) := by
    rw [storeK_one rfl, q1]
    simp [hol]
  have n6 : (m1.set q (.var ty (l.set o .nils)))[m.length]? = some (.var 24 [.int .u64 (n : Int)]) := by rw [List.getElem?_set_ne (by omega)]; exact g5
  have ev : ∀ env, evO env (.const (.slice none 0 0)) = .nils := fun _ => rfl
  simp -implicitDefEqProofs only [sims.1, fx.1, keeps.1, tick_on, faddrK, nonnil, Nat.reduceEqDiff, c1', ev, s1, n6]
  have k1' : K2 c q m m1 := k1.new (Nat.le_refl _)
  refine W_loopM (fun j : Nat => [(42, V.int .u64 (n : Int)), (2, V.fn fid [] [.ptr k 0]), (1, V.ptr q o), (43, V.int .u64 (j : Int))])
    (fun j M => j ≤ n ∧ ∃ xs rest' kk, rdMany pe r1 j = some (xs, rest') ∧ K2 c q m M ∧ Cr M c rest' ∧ Byt rest' ∧ M[q]? = some (.var ty (l.set o (bufR 27 kk (xs.map C)))) ∧ (xs.map C ≠ [] → M[kk]? = some (.row 59 27 (xs.map C)) ∧ m.length ≤ kk))
    (fun j => n + 1 - j) 0 (by kernel_rfl) ⟨by omega, [], r1, 0, rfl, k1'.set _, by unfold Cr; rw [List.getElem?_set_ne hqc]; exact c1, B1, by rw [List.getElem?_set_self q1l]; rfl, fun h => absurd rfl h⟩ ?_
  rintro j M ⟨h1, xs, rj, kk, h2, h3, h4, h5, h6, h7⟩
  have h4' : M[c]? = some (.var 71 [byV rj, .bool true]) := h4
  rcases Nat.lt_or_ge j n with hj | hj
  rotate_left
  · obtain rfl : j = n := by omega
    have d1 : decide (j < j) = false := by simp
    simp -implicitDefEqProofs only [sims.1, keeps.1, tick_on, Nat.reduceEqDiff, ltNat, d1]
    rw [h2]
    exact ⟨M, kk, rfl, h3, h4, h6, h7⟩
  have d1 : decide (j < n) = true := by simpa using hj
  have w1 : IntKind.u64.wrap ((j : Int) + 1) = ((j + 1 : Nat) : Int) := by rw [IntKind.wrap_u64]; omega
  simp -implicitDefEqProofs only [sims.1, fx.1, keeps.1, tick_on, calleeK, Nat.reduceEqDiff, ltNat, d1]
  have hM : ∀ (b : B), (M ++ [b])[M.length]? = some b := fun b => by simp
  have hMl := h3.1
  refine callD_r (hE _ M.length rj (h3.trans (K2.app M _)) (h4.app _) h5 (hM _) (by omega) hMl) he ?_ ?_
  · rintro l' r' M1 e3 k3 c3 q3
    cases e4 : pe rj with
    | none => rw [e4] at e3; cases e3
    | some a =>
    rw [e4] at e3
    cases e3
    simp -implicitDefEqProofs only [sims.1, tick_on]
    have q6 : M1[q]? = some (.var ty (l.set o (bufR 27 kk (xs.map C)))) := k3.2 q _ hqc (by omega) (by rw [List.getElem?_append_left (List.getElem?_eq_some_iff.1 h6).1]; exact h6)
    have k7 : xs.map C ≠ [] → M1[kk]? = some (.row 59 27 (xs.map C)) := fun hne => by
      have := (h7 hne).1
      refine k3.2 kk _ (fun e => ?_) (by have := (List.getElem?_eq_some_iff.1 this).1; omega) (by rw [List.getElem?_append_left (List.getElem?_eq_some_iff.1 this).1]; exact this)
      rw [e, h4'] at this
      cases this
    have hxl : xs.length = j := rdMany_len h2
    have hx := hC a.1
    have c3' : M1[c]? = some (.var 71 [byV a.2, .bool true]) := c3
    have part := hT a.1
    refine w_calls (JS M1 59 27 kk (xs.map C) (C a.1) q ty o l) [5, 6, 8] [.ptr q o, .ptr q o, .ptr q o, bufR 27 kk (xs.map C), (V0 a.1), .sl 27 M1.length 0 1, bufR 27 (M1.length + 1) (xs.map C ++ [C a.1]), .ptr q o, .tup []] (by kernel_rfl) rfl ?_ ?_
    · refine okN_pure rfl rfl rfl (fun _ _ _ => rfl) ?_
      refine okN_pure rfl rfl rfl (fun _ _ _ => rfl) ?_
      refine okN_pure rfl rfl rfl (fun _ _ _ => rfl) ?_
      refine okN_early 1 rfl rfl rfl rfl (fun i M' hi h => by
        show Option.map (Res.val · M') (loadV Try.prog M' 35 (.ptr q o)) = _
        rw [ld35, loadK_ptr, JS_at k7 q6 (by omega) h]
        simp [partK, hol]) ?_
      refine okN_early 0 rfl rfl rfl rfl (fun i M' hi h => by
        show Option.map (Res.val · M') (loadV Try.prog M' 59 (.ptr M.length 0)) = _
        rw [ld59, loadK_ptr, JS_at k7 q3 (by omega) h]
        simp only [Option.bind_some, part, Option.map_some]) ?_
      refine okN_val rfl rfl rfl rfl (fun M' h => ⟨S1 M1 59 27 (C a.1), ?_, rfl⟩) ?_
      · cases h
        show Option.map (fun p => Res.val p.1 p.2) (bsliceV Try.prog 35 1 [(0, (V0 a.1))] M1) = _
        rw [bs1 un35L ze59L (hS _) (by rw [hX, hx]) (by omega) (hY _), hX]
        rfl
      refine okN_val rfl rfl rfl rfl (fun M' h => ⟨S2 M1 59 27 kk (xs.map C) (C a.1), ?_, rfl⟩) ?_
      · cases h
        show Option.map (fun p => Res.val p.1 p.2) (appendA Try.prog 35 35 (bufR 27 kk (xs.map C)) (.sl 27 M1.length 0 1) (S1 M1 59 27 (C a.1))) = _
        rw [apR (x := C a.1) un35L ze59L is35L (by omega) (by simp [S1]) (fun hl => by rw [S1, List.getElem?_append_left (List.getElem?_eq_some_iff.1 (k7 hl)).1]; exact k7 hl) (by simp; omega)]
        simp [S1, S2]
      refine okN_pure rfl rfl rfl (fun _ _ _ => rfl) ?_
      refine okN_skip rfl rfl rfl rfl (fun M' h => ⟨S3 M1 59 27 kk (xs.map C) (C a.1) q ty o l, ?_, rfl⟩) ?_
      · have hc2 := JS_at k7 q6 (by omega) h
        cases h
        show Option.map Res.skip (storeV Try.prog 35 (S2 M1 59 27 kk (xs.map C) (C a.1)) (.ptr q o) (bufR 27 (M1.length + 1) (xs.map C ++ [C a.1]))) = _
        rw [st35, storeK_one (by rw [bufR_snoc]; rfl), hc2]
        simp [S3, hol]
      exact okN_nil
    · intro M' h
      cases h
      have hkm : xs.map C ≠ [] → m.length ≤ kk := fun h => (h7 h).2
      have hck : xs.map C ≠ [] → c ≠ kk := fun he e => by
        have := k7 he
        rw [← e, c3'] at this
        cases this
      have hq2 := (List.getElem?_eq_some_iff.1 q6).1
      have hmM := (h3.trans (k3.new (Nat.le_refl _))).1
      simp -implicitDefEqProofs only [sims.1, keeps.1, tick_on, Nat.reduceEqDiff, putAll, w1]
      refine ⟨j + 1, by kernel_rfl, ⟨by omega, xs ++ [a.1], a.2, M1.length + 1, ?_, ?_, ?_, hP _ _ h5 e4, ?_, ?_⟩, by omega⟩
      · simp only [rdMany, h2, Option.bind_some, e4, Option.map_some]
      · refine ⟨by rw [S3, List.length_set, S2_len]; omega, fun n' b n1 n2 n3 => ?_⟩
        rw [S3, List.getElem?_set_ne fun h => n2 h.symm]
        have hn' := (List.getElem?_eq_some_iff.1 n3).1
        exact S2_at ((h3.trans (k3.new (Nat.le_refl _))).2 n' b n1 n2 n3) fun he => by have := hkm he; omega
      · unfold Cr
        rw [S3, List.getElem?_set_ne hqc]
        exact S2_at c3' hck
      · rw [S3, List.getElem?_set_self (by rw [S2_len]; omega), List.map_append]
        rfl
      · intro _
        refine ⟨?_, by omega⟩
        rw [S3, List.getElem?_set_ne (by omega), S2, List.getElem?_append_right (by rw [killE_len]; simp [S1]), killE_len, List.map_append]
        simp [S1]
  · rintro l' M1 e3 k3 q3 hl
    cases e4 : pe rj with
    | some a => rw [e4] at e3; cases e3
    | none =>
    have e5 : rdMany pe r1 n = none := rdMany_none (j := j + 1) (by omega) (by simp only [rdMany, h2, Option.bind_some, e4, Option.map_none])
    have hq2 : M1[q]? = some (.var ty (l.set o (bufR 27 kk (xs.map C)))) := k3.2 q _ hqc (by omega) (by rw [List.getElem?_append_left (List.getElem?_eq_some_iff.1 h6).1]; exact h6)
    simp -implicitDefEqProofs only [sims.1, tick_on]
    rw [e5]
    exact ⟨M1, _, rfl, h3.trans (k3.new (Nat.le_refl _)), hq2, by simp⟩
end Go.Proofs.Ytjjenpdjmcmgbaa
