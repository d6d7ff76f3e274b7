/- Each Type's way, read. No condition. The great Types' ways, read. No condition. -/
import Derived.Test.YtjjenpdjmcmgbaaDXk
import Derived.Test.YtjjenpdjmcmgbaaDZf
namespace Go.Proofs.Ytjjenpdjmcmgbaa
open Go Ab
set_option linter.unusedSimpArgs false
set_option linter.unusedVariables false
set_option maxRecDepth 20000
/-- A cell's nil slice, told as an empty one. -/
theorem RQ_nil {f : FuncId} {vs : List V} {m : Mem} {c q ty : Nat} {l : List V} {p : Option (List V × List Nat)} (o s : Nat) (hqc : q ≠ c) (h : Snd Try.prog f vs m (RQ c q ty l m p)) (ho : ∀ t, p = some t → t.1[o]? = some .nils) :
    Snd Try.prog f vs m (RQ c q ty l m (p.map fun t => (t.1.set o (.isl s []), t.2))) := by
  refine Snd_frzC h fun r hr => ?_
  cases p with
  | none => exact .inl hr
  | some t =>
    obtain ⟨m', rfl, h1, h2, h3⟩ := hr
    refine .inr ⟨q, ty, t.1, o, .nils, .nils, .isl s [], m', h3, ho t rfl, rfl, h3, .inr ⟨rfl, s, rfl⟩, ?_⟩
    refine ⟨_, rfl, h1.set _, ?_, ?_⟩
    · unfold Cr
      rw [List.getElem?_set_ne hqc]
      exact h2
    · rw [List.getElem?_set_self (List.getElem?_eq_some_iff.1 h3).1]
def rdP (rest : List Nat) : Option (List Nat × List Nat) := rdL (rdN 2) rest
def rdB (rest : List Nat) : Option (List Nat × List Nat) := rdL (rdN 1) rest
def rdH (rest : List Nat) : Option (He × List Nat) := (rdR rest).bind fun r => (rdN 8 r.2).bind fun p => (rdN 8 p.2).map fun b => (⟨r.1, p.1, b.1⟩, b.2)
def rdHs (rest : List Nat) : Option (List He × List Nat) := rdL rdH rest
def rdFl (rest : List Nat) : Option (Bool × List Nat) := (rdN 1 rest).bind fun a => if 1 < a.1 then none else some (decide (a.1 = 1), a.2)
theorem rdNb (n : Nat) : ∀ r (p : Nat × List Nat), Byt r → rdN n r = some p → Byt p.2 := fun _ _ => rdN_byt
theorem rdP_byt {rest : List Nat} {t : List Nat × List Nat} (h : Byt rest) (e : rdP rest = some t) : Byt t.2 := rdL_byt (rdNb 2) h e
theorem rdH_byt {rest : List Nat} {p : He × List Nat} (h : Byt rest) (e : rdH rest = some p) : Byt p.2 := by
  unfold rdH at e
  cases h1 : rdR rest with
  | none => rw [h1] at e; cases e
  | some a =>
  rw [h1] at e
  simp only [Option.bind_some] at e
  cases h2 : rdN 8 a.2 with
  | none => rw [h2] at e; cases e
  | some b =>
  rw [h2] at e
  simp only [Option.bind_some] at e
  cases h3 : rdN 8 b.2 with
  | none => rw [h3] at e; cases e
  | some w =>
  rw [h3] at e
  cases e
  exact rdN_byt (rdN_byt (rdR_byt h h1) h2) h3
def heZ : List V := R4 [] [.int .u64 0, .int .u64 0] 0 w0 .nils 0
set_option maxHeartbeats 2000000 in
theorem snd56r {m : Mem} {c q k : Nat} {rest : List Nat} (hc : Cr m c rest) (hB : Byt rest) (hk : Nm m c k) (hkc : k ≠ c) (hq : m[q]? = some (.var 59 heZ)) (hqc : q ≠ c) (hkq : k ≠ q) :
    Snd Try.prog 56 [.ptr q 0, .ptr k 0] m (RQ c q 59 heZ m ((rdH rest).map fun t => (heC t.1, t.2))) := by
  refine Snd_of_W fol rfl rfl (by kernel_rfl) (by kernel_rfl) ?_
  have hk' : m[k]? = some (.var 69 [.ptr c 0]) := hk
  simp -implicitDefEqProofs only [sims.1, tick_on]
  refine w_callsP (JR m (GR c q 59 heZ m ((rdR rest).map fun t => ([] ++ (ruC t.1 ++ [.int .u64 0, .int .u64 0]), t.2)))) (HR c q 59 heZ m ((rdR rest).map fun t => ([] ++ (ruC t.1 ++ [.int .u64 0, .int .u64 0]), t.2))) [4] [.ptr c 0, .ptr q 0, .ptr q 0, .ptr q 0, .tup []] (by kernel_rfl) rfl ?_ ?_ ?_
  · refine okN_early 0 rfl rfl rfl rfl (fun i M' hi h => by
      show Option.map (Res.val · M') (loadV Try.prog M' 69 (.ptr k 0)) = _
      rw [JR0 h hi, ld69, loadK_ptr, hk']
      rfl) ?_
    refine okN_pure rfl rfl rfl (fun _ _ _ => rfl) ?_
    refine okN_pure rfl rfl rfl (fun _ _ _ => rfl) ?_
    refine okN_pure rfl rfl rfl (fun _ M' _ => by
      show Option.map (Res.val · M') (faddrV Try.prog 59 0 (.ptr q 0)) = _
      rw [fa59_0]
      rfl) ?_
    refine okN_call rfl (show calleeV (evO _) _ = some (53, [.ptr c 0, .ptr q 0]) by kernel_rfl) rfl rfl (fun m' h => callD_jr (snd53r (A := []) (Z := [.int .u64 0, .int .u64 0]) hc hB hq hqc) en53 h) ?_
    exact okN_nil
  rotate_left
  · rintro _ M ⟨rfl, e, kk, l', q', hl⟩
    have e := map_none' e
    rw [show rdH rest = none from by simp only [rdH, e, Option.bind_none]]
    exact ⟨M, l', rfl, kk, q', hl⟩
  rintro M1 ⟨l1, r1, e, k1, c1, q1⟩
  obtain ⟨a, da, e6⟩ := map_some' e
  cases e6
  have B1 : Byt a.2 := rdR_byt hB da
  have q1 : M1[q]? = some (.var 59 (heC ⟨a.1, 0, 0⟩)) := q1
  have hk1 : M1[k]? = some (.var 69 [.ptr c 0]) := k1.2 _ _ hkc hkq hk
  simp -implicitDefEqProofs only [sims.1, tick_on, putAll]
  refine w_callsP (JR M1 (GR c q 59 (heC ⟨a.1, 0, 0⟩) M1 (cellR (heC ⟨a.1, 0, 0⟩) 25 ((rdN 8 a.2).map fun p => (.int .u64 (p.1 : Int), p.2))))) (HR c q 59 (heC ⟨a.1, 0, 0⟩) M1 (cellR (heC ⟨a.1, 0, 0⟩) 25 ((rdN 8 a.2).map fun p => (.int .u64 (p.1 : Int), p.2)))) [5] [.ptr c 0, .ptr q 0, .ptr q 0, .ptr q 25, .ptr q 25, .tup []] (by kernel_rfl) rfl ?_ ?_ ?_
  · refine okN_early 0 rfl rfl rfl rfl (fun i M' hi h => by
      show Option.map (Res.val · M') (loadV Try.prog M' 69 (.ptr k 0)) = _
      rw [JR0 h hi, ld69, loadK_ptr, hk1]
      rfl) ?_
    refine okN_pure rfl rfl rfl (fun _ _ _ => rfl) ?_
    refine okN_pure rfl rfl rfl (fun _ _ _ => rfl) ?_
    refine okN_pure rfl rfl rfl (fun _ M' _ => by
      show Option.map (Res.val · M') (faddrV Try.prog 59 1 (.ptr q 0)) = _
      rw [fa59_1]
      rfl) ?_
    refine okN_pure rfl rfl rfl (fun _ M' _ => by
      show Option.map (Res.val · M') (faddrV Try.prog 57 0 (.ptr q 25)) = _
      rw [fa57_0]
      rfl) ?_
    refine okN_call rfl (show calleeV (evO _) _ = some (31, [.ptr c 0, .ptr q 25, .int .i64 8]) by kernel_rfl) rfl rfl (fun m' h => callD_jr (snd31q (n := 8) (o := 25) (a := 0) c1 q1 hqc rfl B1.1 B1.2 (by omega) (by omega)) en31 h) ?_
    exact okN_nil
  rotate_left
  · rintro _ M ⟨rfl, e, kk, l', q', hl⟩
    have e := map_none' (cellR_none e)
    rw [show rdH rest = none from by simp only [rdH, da, e, Option.bind_some, Option.bind_none]]
    exact ⟨M, l', rfl, k1.trans kk, q', hl⟩
  rintro M2 ⟨l2, r2, e, k2, c2, q2⟩
  obtain ⟨v, e5, rfl⟩ := cellR_some e
  obtain ⟨b, db, e6⟩ := map_some' e5
  cases e6
  have B2 : Byt b.2 := rdN_byt B1 db
  have q2 : M2[q]? = some (.var 59 (heC ⟨a.1, b.1, 0⟩)) := q2
  have hk2 : M2[k]? = some (.var 69 [.ptr c 0]) := k2.2 _ _ hkc hkq hk1
  simp -implicitDefEqProofs only [sims.1, tick_on, putAll]
  refine w_callsP (JR M2 (GR c q 59 (heC ⟨a.1, b.1, 0⟩) M2 (cellR (heC ⟨a.1, b.1, 0⟩) 26 ((rdN 8 b.2).map fun p => (.int .u64 (p.1 : Int), p.2))))) (HR c q 59 (heC ⟨a.1, b.1, 0⟩) M2 (cellR (heC ⟨a.1, b.1, 0⟩) 26 ((rdN 8 b.2).map fun p => (.int .u64 (p.1 : Int), p.2)))) [5] [.ptr c 0, .ptr q 0, .ptr q 0, .ptr q 25, .ptr q 26, .tup []] (by kernel_rfl) rfl ?_ ?_ ?_
  · refine okN_early 0 rfl rfl rfl rfl (fun i M' hi h => by
      show Option.map (Res.val · M') (loadV Try.prog M' 69 (.ptr k 0)) = _
      rw [JR0 h hi, ld69, loadK_ptr, hk2]
      rfl) ?_
    refine okN_pure rfl rfl rfl (fun _ _ _ => rfl) ?_
    refine okN_pure rfl rfl rfl (fun _ _ _ => rfl) ?_
    refine okN_pure rfl rfl rfl (fun _ M' _ => by
      show Option.map (Res.val · M') (faddrV Try.prog 59 1 (.ptr q 0)) = _
      rw [fa59_1]
      rfl) ?_
    refine okN_pure rfl rfl rfl (fun _ M' _ => by
      show Option.map (Res.val · M') (faddrV Try.prog 57 1 (.ptr q 25)) = _
      rw [fa57_1]
      rfl) ?_
    refine okN_call rfl (show calleeV (evO _) _ = some (31, [.ptr c 0, .ptr q 26, .int .i64 8]) by kernel_rfl) rfl rfl (fun m' h => callD_jr (snd31q (n := 8) (o := 26) (a := 0) c2 q2 hqc rfl B2.1 B2.2 (by omega) (by omega)) en31 h) ?_
    exact okN_nil
  rotate_left
  · rintro _ M ⟨rfl, e, kk, l', q', hl⟩
    have e := map_none' (cellR_none e)
    rw [show rdH rest = none from by simp only [rdH, da, db, e, Option.bind_some, Option.map_none]]
    exact ⟨M, l', rfl, k1.trans (k2.trans kk), q', hl⟩
  rintro M3 ⟨l3, r3, e, k3, c3, q3⟩
  obtain ⟨v, e5, rfl⟩ := cellR_some e
  obtain ⟨d, dd, e6⟩ := map_some' e5
  cases e6
  simp -implicitDefEqProofs only [sims.1, tick_on, putAll]
  rw [show rdH rest = some (⟨a.1, b.1, d.1⟩, d.2) from by simp only [rdH, da, db, dd, Option.bind_some, Option.map_some]]
  exact ⟨M3, rfl, k1.trans (k2.trans k3), c3, q3⟩
theorem snd45r {m : Mem} {c q k : Nat} {rest : List Nat} (hc : Cr m c rest) (hB : Byt rest) (hk : Nm m c k) (hq : m[q]? = some (.var 32 [.int .u16 0])) (hqc : q ≠ c) :
    Snd Try.prog 45 [.ptr q 0, .ptr k 0] m (RQ c q 32 [.int .u16 0] m ((rdN 2 rest).map fun t => (poC t.1, t.2))) := by
  refine Snd_of_W fol rfl rfl (by kernel_rfl) (by kernel_rfl) ?_
  have hk' : m[k]? = some (.var 69 [.ptr c 0]) := hk
  simp -implicitDefEqProofs only [sims.1, fx.1, keeps.1, tick_on, calleeK, Nat.reduceEqDiff, hk']
  refine callD_r (snd42r (o := 0) hc hq hqc rfl hB.1 hB.2) en42 ?_ ?_
  · intro l' r' m1 e k1 c1 q1
    obtain ⟨v, e5, rfl⟩ := cellR_some e
    obtain ⟨a, da, e6⟩ := map_some' e5
    cases e6
    simp -implicitDefEqProofs only [sims.1, tick_on]
    rw [da]
    exact ⟨m1, rfl, k1, c1, q1⟩
  · intro l' m1 e k1 q1 hl
    rw [map_none' (cellR_none e)]
    exact ⟨m1, l', rfl, k1, q1, hl⟩
theorem snd48r {m : Mem} {c q k : Nat} {rest : List Nat} (hc : Cr m c rest) (hB : Byt rest) (hk : Nm m c k) (hq : m[q]? = some (.var 5 [.int .u8 0])) (hqc : q ≠ c) :
    Snd Try.prog 48 [.ptr q 0, .ptr k 0] m (RQ c q 5 [.int .u8 0] m ((rdN 1 rest).map fun t => (byC t.1, t.2))) := by
  refine Snd_of_W fol rfl rfl (by kernel_rfl) (by kernel_rfl) ?_
  have hk' : m[k]? = some (.var 69 [.ptr c 0]) := hk
  simp -implicitDefEqProofs only [sims.1, fx.1, keeps.1, tick_on, calleeK, Nat.reduceEqDiff, hk']
  refine callD_r (snd49r (o := 0) hc hq hqc rfl hB.1 hB.2) en49 ?_ ?_
  · intro l' r' m1 e k1 c1 q1
    obtain ⟨v, e5, rfl⟩ := cellR_some e
    obtain ⟨a, da, e6⟩ := map_some' e5
    cases e6
    simp -implicitDefEqProofs only [sims.1, tick_on]
    rw [da]
    exact ⟨m1, rfl, k1, c1, q1⟩
  · intro l' m1 e k1 q1 hl
    rw [map_none' (cellR_none e)]
    exact ⟨m1, l', rfl, k1, q1, hl⟩
theorem snd43r {m : Mem} {c q ty o : Nat} {l : List V} {rest : List Nat} (hc : Cr m c rest) (hB : Byt rest) (hq : m[q]? = some (.var ty l)) (hqc : q ≠ c) (ho : l[o]? = some .nils) :
    Snd Try.prog 43 [.ptr c 0, .ptr q o] m (RQ c q ty l m (cellR l o ((rdP rest).map fun t => (poV t.1, t.2)))) := by
  refine Snd_of_W fol rfl rfl (by kernel_rfl) (by kernel_rfl) ?_
  have nb : newV 69 m (.ptr c 0) = some (.ptr m.length 0, m ++ [.var 69 [.ptr c 0]]) := newV_one rfl
  have hs : ∀ (b : B), (m ++ [b])[m.length]? = some b := fun b => by simp
  have hlt := hc.lt
  have hql := (List.getElem?_eq_some_iff.1 hq).1
  have hq1 : ∀ ex : Mem, (m ++ ex)[q]? = some (.var ty l) := fun ex => by rw [List.getElem?_append_left hql]; exact hq
  simp -implicitDefEqProofs only [sims.1, fx.1, keeps.1, tick_on, calleeK, Nat.reduceEqDiff, nb, hs]
  refine callD_r (LQ_RQ (s := 1) (E := 32) (List.getElem?_eq_some_iff.1 (hq1 _)).1 (hc.app _).lt hqc (List.getElem?_eq_some_iff.1 ho).1 (snd44r0 poC (fun a => .int .u16 (a : Int)) (rdN 2) (hc.app _) hB (hq1 _) hqc ho en45
    (fun m' q' rest' h1 h2 h3 h4 h5 h6 => snd45r h2 h3 (h1.2 _ _ (by omega) (by omega) (hs _)) h4 h5)
    (rdNb 2) (fun _ => rfl) (fun _ => rfl) (fun _ => rfl) (fun _ => rfl) (fun _ => rfl))) en44 ?_ ?_
  · intro l' r' m1 e k1 c1 q1
    simp -implicitDefEqProofs only [sims.1, tick_on]
    have e : cellR l o ((rdP rest).map fun t => (poV t.1, t.2)) = some (l', r') := e
    rw [e]
    exact ⟨m1, rfl, (K2.app m _).trans k1, c1, q1⟩
  · intro l' m1 e k1 q1 hl
    have e : cellR l o ((rdP rest).map fun t => (poV t.1, t.2)) = none := e
    rw [e]
    exact ⟨m1, l', rfl, (K2.app m _).trans k1, q1, hl⟩
theorem snd41r {m : Mem} {c q : Nat} {l : List V} {rest : List Nat} (hc : Cr m c rest) (hB : Byt rest) (hq : m[q]? = some (.var 37 l)) (hqc : q ≠ c) (ho : l[28]? = some (.int .u16 0)) :
    Snd Try.prog 41 [.ptr c 0, .ptr q 0] m (RQ c q 37 l m (cellR l 28 ((rdN 2 rest).map fun t => (.int .u16 (t.1 : Int), t.2)))) := by
  refine Snd_of_W fol rfl rfl (by kernel_rfl) (by kernel_rfl) ?_
  have hnn : ∀ k o, nonnil (.ptr k o) = true := fun _ _ => rfl
  simp -implicitDefEqProofs only [sims.1, fx.1, keeps.1, tick_on, calleeK, faddrK, nonnil, Nat.reduceEqDiff]
  refine callD_r (snd42r (o := 28) hc hq hqc ho hB.1 hB.2) en42 ?_ ?_
  · intro l' r' m1 e k1 c1 q1
    simp -implicitDefEqProofs only [sims.1, tick_on]
    rw [e]
    exact ⟨m1, rfl, k1, c1, q1⟩
  · intro l' m1 e k1 q1 hl
    rw [e]
    exact ⟨m1, l', rfl, k1, q1, hl⟩
theorem snd59r {m : Mem} {c q : Nat} {l : List V} {rest : List Nat} (hc : Cr m c rest) (hB : Byt rest) (hq : m[q]? = some (.var 37 l)) (hqc : q ≠ c) (ho : l[35]? = some (.int .u16 0)) :
    Snd Try.prog 59 [.ptr c 0, .ptr q 0] m (RQ c q 37 l m (cellR l 35 ((rdN 2 rest).map fun t => (.int .u16 (t.1 : Int), t.2)))) := by
  refine Snd_of_W fol rfl rfl (by kernel_rfl) (by kernel_rfl) ?_
  have hnn : ∀ k o, nonnil (.ptr k o) = true := fun _ _ => rfl
  simp -implicitDefEqProofs only [sims.1, fx.1, keeps.1, tick_on, calleeK, faddrK, nonnil, Nat.reduceEqDiff]
  refine callD_r (snd42r (o := 35) hc hq hqc ho hB.1 hB.2) en42 ?_ ?_
  · intro l' r' m1 e k1 c1 q1
    simp -implicitDefEqProofs only [sims.1, tick_on]
    rw [e]
    exact ⟨m1, rfl, k1, c1, q1⟩
  · intro l' m1 e k1 q1 hl
    rw [e]
    exact ⟨m1, l', rfl, k1, q1, hl⟩
end Go.Proofs.Ytjjenpdjmcmgbaa
namespace Go.Proofs.Ytjjenpdjmcmgbaa
open Go Ab
set_option linter.unusedSimpArgs false
set_option linter.unusedVariables false
set_option maxRecDepth 20000
theorem snd58r {m : Mem} {c q ty o : Nat} {l : List V} {rest : List Nat} (hc : Cr m c rest) (hB : Byt rest) (hq : m[q]? = some (.var ty l)) (hqc : q ≠ c) (ho : l[o]? = some (.bool false)) :
    Snd Try.prog 58 [.ptr c 0, .ptr q o] m (RQ c q ty l m (cellR l o ((rdFl rest).map fun t => (.bool t.1, t.2)))) := by
  refine Snd_of_W fol rfl rfl (by kernel_rfl) (by kernel_rfl) ?_
  have hnn : ∀ k o, nonnil (.ptr k o) = true := fun _ _ => rfl
  have hs : ∀ (b : B), (m ++ [b])[m.length]? = some b := fun b => by simp
  have hset : ∀ b b' : B, (m ++ [b]).set m.length b' = m ++ [b'] := fun b b' => by simp
  have hlt := hc.lt
  have hql := (List.getElem?_eq_some_iff.1 hq).1
  have hol := (List.getElem?_eq_some_iff.1 ho).1
  have hq1 : ∀ ex : Mem, (m ++ ex)[q]? = some (.var ty l) := fun ex => by rw [List.getElem?_append_left hql]; exact hq
  simp -implicitDefEqProofs only [sims.1, fx.1, keeps.1, tick_on, calleeK, nonnil, Nat.reduceEqDiff, Nat.reduceLT, hs, hset, hq1, ho]
  refine callD_r (snd49r (o := 0) (hc.app _) (hs _) (by omega) rfl hB.1 hB.2) en49 ?_ ?_
  rotate_left
  · intro l' m1 e k1 q1 hl
    rw [show rdFl rest = none from by simp only [rdFl, map_none' (cellR_none e), Option.bind_none]]
    exact ⟨m1, l, rfl, k1.new (Nat.le_refl _), k1.2 q _ hqc (by omega) (hq1 _), rfl⟩
  intro l1 r1 m1 e k1 c1 q1
  obtain ⟨v, e5, rfl⟩ := cellR_some e
  obtain ⟨a, da, e6⟩ := map_some' e5
  cases e6
  have q1 : m1[m.length]? = some (.var 5 [.int .u8 (a.1 : Int)]) := q1
  have qq : m1[q]? = some (.var ty l) := k1.2 q _ hqc (by omega) (hq1 _)
  have kk : K2 c q m m1 := k1.new (Nat.le_refl _)
  have d1 : decide ((1 : Int) < (a.1 : Int)) = decide (1 < a.1) := by rw [Bool.eq_iff_iff]; simp; omega
  have d2 : decide ((a.1 : Int) = 1) = decide (a.1 = 1) := by rw [Bool.eq_iff_iff]; simp; omega
  cases e1 : decide (1 < a.1)
  · rw [e1] at d1
    have stb : ∀ b : Bool, storeK 1 m1 (.ptr q o) (.bool b) = some (m1.set q (.var ty (l.set o (.bool b)))) := fun b => by
      rw [storeK_one rfl, qq]
      simp [hol]
    simp -implicitDefEqProofs only [sims.1, fx.1, keeps.1, tick_on, nonnil, Nat.reduceEqDiff, q1, d1, d2, stb]
    rw [show rdFl rest = some (decide (a.1 = 1), a.2) from by simp only [rdFl, da, Option.bind_some, if_neg (of_decide_eq_false e1)]]
    refine ⟨_, rfl, kk.set _, ?_, ?_⟩
    · unfold Cr
      rw [List.getElem?_set_ne hqc]
      exact c1
    · rw [List.getElem?_set_self (List.getElem?_eq_some_iff.1 qq).1]
  · rw [e1] at d1
    simp -implicitDefEqProofs only [sims.1, fx.1, keeps.1, tick_on, Nat.reduceEqDiff, q1, d1]
    rw [show rdFl rest = none from by simp only [rdFl, da, Option.bind_some, if_pos (of_decide_eq_true e1)]]
    exact ⟨m1, l, rfl, kk, qq, rfl⟩
/-- A message's cells behind its first three, at the beginning. -/
def zT : List V := [.int .u16 0, .bool false, .int .u16 0, .nils, .nils, .nils, .nils, .int .u16 0]
def mzR (t : Int) (i : Nat) : List V := R4 [.int .i8 t, .int .u32 (i : Int), .int .i8 0] zT 0 w0 .nils 0
theorem he_sty (h : He) : stys [.agg (heC h)] = true := by
  have e : (heC h).all sty1 = true := rfl
  simp only [stys, sty, List.all_cons, List.all_nil, e, Bool.and_true, Bool.or_true]
theorem mz_len (t : Int) (i : Nat) : (mzR t i).length = 36 := rfl
theorem mz2 {t : Int} {i : Nat} : (mzR t i)[2]? = some (.int .i8 0) := rfl
theorem mz28 {t : Int} {i : Nat} : (mzR t i)[28]? = some (.int .u16 0) := rfl
theorem mz29 {t : Int} {i : Nat} : (mzR t i)[29]? = some (.bool false) := rfl
theorem mz30 {t : Int} {i : Nat} : (mzR t i)[30]? = some (.int .u16 0) := rfl
theorem mz31 {t : Int} {i : Nat} : (mzR t i)[31]? = some .nils := rfl
theorem mz32 {t : Int} {i : Nat} : (mzR t i)[32]? = some .nils := rfl
theorem mz33 {t : Int} {i : Nat} : (mzR t i)[33]? = some .nils := rfl
theorem mz34 {t : Int} {i : Nat} : (mzR t i)[34]? = some .nils := rfl
theorem mz35 {t : Int} {i : Nat} : (mzR t i)[35]? = some (.int .u16 0) := rfl
theorem set_ne' {l : List V} {i j : Nat} {v x : V} (h : l[j]? = some x) (hij : i ≠ j) : (l.set i v)[j]? = some x := by rw [List.getElem?_set_ne hij]; exact h
theorem snd60r {m : Mem} {c q : Nat} {l : List V} {rest : List Nat} (hc : Cr m c rest) (hq : m[q]? = some (.var 37 l)) : Snd Try.prog 60 [.ptr c 0, .ptr q 0] m (RQ c q 37 l m (some (l, rest))) := by
  refine Snd_of_W fol rfl rfl (by kernel_rfl) (by kernel_rfl) ?_
  simp -implicitDefEqProofs only [sims.1, tick_on]
  exact ⟨m, rfl, K2.refl _ _ _, hc, hq⟩
set_option maxHeartbeats 1000000 in
theorem snd51r {m : Mem} {c q i : Nat} {t : Int} {rest : List Nat} (hc : Cr m c rest) (hB : Byt rest) (hq : m[q]? = some (.var 37 (mzR t i))) (hqc : q ≠ c) :
    Snd Try.prog 51 [.ptr c 0, .ptr q 0] m (RQ c q 37 (mzR t i) m ((rdN 1 rest).bind fun a => (rdR a.2).map fun r => ([.int .i8 t, .int .u32 (i : Int), .int .i8 (IntKind.i8.wrap (a.1 : Int))] ++ (ruC r.1 ++ zT), r.2))) := by
  refine Snd_of_W fol rfl rfl (by kernel_rfl) (by kernel_rfl) ?_
  have hnn : ∀ k o, nonnil (.ptr k o) = true := fun _ _ => rfl
  simp -implicitDefEqProofs only [sims.1, fx.1, keeps.1, tick_on, calleeK, faddrK, nonnil, Nat.reduceEqDiff]
  refine callD_r (snd52r (o := 2) hc hq hqc mz2 hB.1 hB.2) en52 ?_ ?_
  rotate_left
  · intro l' m1 e k1 q1 hl
    rw [map_none' (cellR_none e)]
    exact ⟨m1, l', rfl, k1, q1, hl⟩
  intro l1 r1 m1 e k1 c1 q1
  obtain ⟨v, e5, rfl⟩ := cellR_some e
  obtain ⟨a, da, e6⟩ := map_some' e5
  cases e6
  have B1 := rdN_byt hB da
  rw [da]
  simp only [Option.bind_some]
  have q1 : m1[q]? = some (.var 37 (R4 [.int .i8 t, .int .u32 (i : Int), .int .i8 (IntKind.i8.wrap (a.1 : Int))] zT 0 w0 .nils 0)) := q1
  simp -implicitDefEqProofs only [sims.1, fx.1, keeps.1, tick_on, calleeK, faddrK, nonnil, Nat.reduceEqDiff]
  refine callD_r (snd53r (A := [.int .i8 t, .int .u32 (i : Int), .int .i8 (IntKind.i8.wrap (a.1 : Int))]) (Z := zT) c1 B1 q1 hqc) en53 ?_ ?_
  · intro l2 r2 m2 e k2 c2 q2
    obtain ⟨r, dr, e6⟩ := map_some' e
    cases e6
    simp -implicitDefEqProofs only [sims.1, tick_on]
    rw [dr]
    exact ⟨m2, rfl, k1.trans k2, c2, q2⟩
  · intro l2 m2 e k2 q2 hl
    rw [map_none' e]
    exact ⟨m2, l2, rfl, k1.trans k2, q2, hl⟩
set_option maxHeartbeats 1000000 in
theorem snd57r {m : Mem} {c q i k : Nat} {t : Int} {rest : List Nat} (hc : Cr m c rest) (hB : Byt rest) (hk : m[k]? = some (.var 64 [.fn 41 [] []])) (hq : m[q]? = some (.var 37 (mzR t i))) (hqc : q ≠ c) :
    Snd Try.prog 57 [.ptr c 0, .ptr q 0, .ptr k 0] m (RQ c q 37 (mzR t i) m ((rdN 2 rest).bind fun a => (rdFl a.2).map fun b => (((mzR t i).set 28 (.int .u16 (a.1 : Int))).set 29 (.bool b.1), b.2))) := by
  refine Snd_of_W fol rfl rfl (by kernel_rfl) (by kernel_rfl) ?_
  have hnn : ∀ k o, nonnil (.ptr k o) = true := fun _ _ => rfl
  simp -implicitDefEqProofs only [sims.1, fx.1, keeps.1, tick_on, calleeK, Nat.reduceEqDiff, hk]
  refine callD_r (snd41r hc hB hq hqc mz28) en41 ?_ ?_
  rotate_left
  · intro l' m1 e k1 q1 hl
    rw [map_none' (cellR_none e)]
    exact ⟨m1, l', rfl, k1, q1, hl⟩
  intro l1 r1 m1 e k1 c1 q1
  obtain ⟨v, e5, rfl⟩ := cellR_some e
  obtain ⟨a, da, e6⟩ := map_some' e5
  cases e6
  have B1 := rdN_byt hB da
  rw [da]
  simp only [Option.bind_some]
  simp -implicitDefEqProofs only [sims.1, fx.1, keeps.1, tick_on, calleeK, faddrK, nonnil, Nat.reduceEqDiff]
  refine callD_r (snd58r (o := 29) c1 B1 q1 hqc (set_ne' mz29 (by decide))) en58 ?_ ?_
  · intro l2 r2 m2 e k2 c2 q2
    obtain ⟨v, e5, rfl⟩ := cellR_some e
    obtain ⟨b, db, e6⟩ := map_some' e5
    cases e6
    simp -implicitDefEqProofs only [sims.1, tick_on]
    rw [db]
    exact ⟨m2, rfl, k1.trans k2, c2, q2⟩
  · intro l2 m2 e k2 q2 hl
    rw [map_none' (cellR_none e)]
    exact ⟨m2, l2, rfl, k1.trans k2, q2, by rw [hl]; simp only [List.length_set]⟩
set_option maxHeartbeats 1000000 in
theorem snd46r {m : Mem} {c q i k : Nat} {t : Int} {rest : List Nat} (hc : Cr m c rest) (hB : Byt rest) (hk : m[k]? = some (.var 64 [.fn 41 [] []])) (hq : m[q]? = some (.var 37 (mzR t i))) (hqc : q ≠ c) :
    Snd Try.prog 46 [.ptr c 0, .ptr q 0, .ptr k 0] m (RQ c q 37 (mzR t i) m ((rdN 2 rest).bind fun a => (rdB a.2).map fun b => (((mzR t i).set 28 (.int .u16 (a.1 : Int))).set 33 (byV b.1), b.2))) := by
  refine Snd_of_W fol rfl rfl (by kernel_rfl) (by kernel_rfl) ?_
  have nb : newV 69 m (.ptr c 0) = some (.ptr m.length 0, m ++ [.var 69 [.ptr c 0]]) := newV_one rfl
  have hs : ∀ (b : B), (m ++ [b])[m.length]? = some b := fun b => by simp
  have hlt := hc.lt
  have hql := (List.getElem?_eq_some_iff.1 hq).1
  have hq1 : ∀ ex : Mem, (m ++ ex)[q]? = some (.var 37 (mzR t i)) := fun ex => by rw [List.getElem?_append_left hql]; exact hq
  have hka : ∀ b : B, (m ++ [b])[k]? = some (.var 64 [.fn 41 [] []]) := fun b => by rw [List.getElem?_append_left (List.getElem?_eq_some_iff.1 hk).1]; exact hk
  simp -implicitDefEqProofs only [sims.1, fx.1, keeps.1, tick_on, calleeK, Nat.reduceEqDiff, nb, hs, hka]
  refine callD_r (snd41r (hc.app _) hB (hq1 _) hqc mz28) en41 ?_ ?_
  rotate_left
  · intro l' m1 e k1 q1 hl
    rw [map_none' (cellR_none e)]
    exact ⟨m1, l', rfl, (K2.app m _).trans k1, q1, hl⟩
  intro l1 r1 m1 e k1 c1 q1
  obtain ⟨v, e5, rfl⟩ := cellR_some e
  obtain ⟨a, da, e6⟩ := map_some' e5
  cases e6
  have B1 := rdN_byt hB da
  have n1 : m1[m.length]? = some (.var 69 [.ptr c 0]) := k1.2 _ _ (by omega) (by omega) (hs _)
  have kk1 : K2 c q m m1 := (K2.app m _).trans k1
  have ml := (List.getElem?_eq_some_iff.1 n1).1
  rw [da]
  simp only [Option.bind_some]
  simp -implicitDefEqProofs only [sims.1, tick_on]
  have hL : Snd Try.prog 47 [.ptr c 0, .ptr q 33, .fn 48 [] [.ptr m.length 0]] m1 (RQ c q 37 ((mzR t i).set 28 (.int .u16 (a.1 : Int))) m1 (cellR ((mzR t i).set 28 (.int .u16 (a.1 : Int))) 33 ((rdB a.2).map fun b => (byV b.1, b.2)))) :=
    LQ_RQ (s := 1) (E := 5) (List.getElem?_eq_some_iff.1 q1).1 c1.lt hqc (by simp only [List.length_set, mz_len]; omega) (snd47r0 byC (fun a => .int .u8 (a : Int)) (rdN 1) c1 B1 q1 hqc (set_ne' mz33 (by decide)) en48
      (fun m' q' rest' h1 h2 h3 h4 h5 h6 => snd48r h2 h3 (h1.2 _ _ (by omega) (by omega) n1) h4 h5)
      (rdNb 1) (fun _ => rfl) (fun _ => rfl) (fun _ => rfl) (fun _ => rfl) (fun _ => rfl))
  refine w_callsP (JR m1 (GR c q 37 ((mzR t i).set 28 (.int .u16 (a.1 : Int))) m1 (cellR ((mzR t i).set 28 (.int .u16 (a.1 : Int))) 33 ((rdB a.2).map fun b => (byV b.1, b.2))))) (HR c q 37 ((mzR t i).set 28 (.int .u16 (a.1 : Int))) m1 (cellR ((mzR t i).set 28 (.int .u16 (a.1 : Int))) 33 ((rdB a.2).map fun b => (byV b.1, b.2)))) [5] [.ptr c 0, .ptr q 0, .ptr q 0, .ptr q 33, .fn 48 [] [.ptr m.length 0], .tup []] (by kernel_rfl) rfl ?_ ?_ ?_
  · refine okN_early 0 rfl rfl rfl rfl (fun i M' hi h => by
      show Option.map (Res.val · M') (loadV Try.prog M' 69 (.ptr m.length 0)) = _
      rw [JR0 h hi, ld69, loadK_ptr, n1]
      rfl) ?_
    refine okN_pure rfl rfl rfl (fun _ _ _ => rfl) ?_
    refine okN_pure rfl rfl rfl (fun _ _ _ => rfl) ?_
    refine okN_pure rfl rfl rfl (fun _ M' _ => by
      show Option.map (Res.val · M') (faddrV Try.prog 37 9 (.ptr q 0)) = _
      rw [fa37_9]
      rfl) ?_
    refine okN_pure rfl rfl rfl (fun _ _ _ => rfl) ?_
    refine okN_call rfl (show calleeV (evO _) _ = some (47, [.ptr c 0, .ptr q 33, .fn 48 [] [.ptr m.length 0]]) by kernel_rfl) rfl rfl (fun m' h => callD_jr hL en47 h) ?_
    exact okN_nil
  rotate_left
  · rintro _ M ⟨rfl, e, kk, l', q', hl⟩
    rw [map_none' (cellR_none e)]
    exact ⟨M, l', rfl, kk1.trans kk, q', by rw [hl]; simp only [List.length_set]⟩
  rintro M2 ⟨l2, r2, e, k2, c2, q2⟩
  obtain ⟨v, e5, rfl⟩ := cellR_some e
  obtain ⟨b, db, e6⟩ := map_some' e5
  cases e6
  simp -implicitDefEqProofs only [sims.1, tick_on, putAll]
  rw [db]
  exact ⟨M2, rfl, kk1.trans k2, c2, q2⟩
set_option maxHeartbeats 1000000 in
theorem snd54r {m : Mem} {c q i k : Nat} {t : Int} {rest : List Nat} (hc : Cr m c rest) (hB : Byt rest) (hk : m[k]? = some (.var 64 [.fn 41 [] []])) (hq : m[q]? = some (.var 37 (mzR t i))) (hqc : q ≠ c) :
    Snd Try.prog 54 [.ptr c 0, .ptr q 0, .ptr k 0] m (RQ c q 37 (mzR t i) m ((rdN 2 rest).bind fun a => (rdHs a.2).map fun b => (((mzR t i).set 28 (.int .u16 (a.1 : Int))).set 34 (hesV b.1), b.2))) := by
  refine Snd_of_W fol rfl rfl (by kernel_rfl) (by kernel_rfl) ?_
  have nb : newV 69 m (.ptr c 0) = some (.ptr m.length 0, m ++ [.var 69 [.ptr c 0]]) := newV_one rfl
  have hs : ∀ (b : B), (m ++ [b])[m.length]? = some b := fun b => by simp
  have hlt := hc.lt
  have hql := (List.getElem?_eq_some_iff.1 hq).1
  have hq1 : ∀ ex : Mem, (m ++ ex)[q]? = some (.var 37 (mzR t i)) := fun ex => by rw [List.getElem?_append_left hql]; exact hq
  have hka : ∀ b : B, (m ++ [b])[k]? = some (.var 64 [.fn 41 [] []]) := fun b => by rw [List.getElem?_append_left (List.getElem?_eq_some_iff.1 hk).1]; exact hk
  simp -implicitDefEqProofs only [sims.1, fx.1, keeps.1, tick_on, calleeK, Nat.reduceEqDiff, nb, hs, hka]
  refine callD_r (snd41r (hc.app _) hB (hq1 _) hqc mz28) en41 ?_ ?_
  rotate_left
  · intro l' m1 e k1 q1 hl
    rw [map_none' (cellR_none e)]
    exact ⟨m1, l', rfl, (K2.app m _).trans k1, q1, hl⟩
  intro l1 r1 m1 e k1 c1 q1
  obtain ⟨v, e5, rfl⟩ := cellR_some e
  obtain ⟨a, da, e6⟩ := map_some' e5
  cases e6
  have B1 := rdN_byt hB da
  have n1 : m1[m.length]? = some (.var 69 [.ptr c 0]) := k1.2 _ _ (by omega) (by omega) (hs _)
  have kk1 : K2 c q m m1 := (K2.app m _).trans k1
  have ml := (List.getElem?_eq_some_iff.1 n1).1
  rw [da]
  simp only [Option.bind_some]
  simp -implicitDefEqProofs only [sims.1, tick_on]
  have hL : Snd Try.prog 55 [.ptr c 0, .ptr q 34, .fn 56 [] [.ptr m.length 0]] m1 (RQ c q 37 ((mzR t i).set 28 (.int .u16 (a.1 : Int))) m1 (cellR ((mzR t i).set 28 (.int .u16 (a.1 : Int))) 34 ((rdHs a.2).map fun b => (hesV b.1, b.2)))) :=
    LQ_RQ (s := 27) (E := 59) (List.getElem?_eq_some_iff.1 q1).1 c1.lt hqc (by simp only [List.length_set, mz_len]; omega) (snd55r0 heC (fun a => .agg (heC a)) rdH c1 B1 q1 hqc (set_ne' mz34 (by decide)) en56
      (fun m' q' rest' h1 h2 h3 h4 h5 h6 => snd56r h2 h3 (h1.2 _ _ (by omega) (by omega) n1) (by omega) h4 h5 (by omega))
      (fun _ _ => rdH_byt) (fun _ => rfl) he_sty (fun _ => rfl) (fun _ => rfl) (fun _ => rfl))
  refine w_callsP (JR m1 (GR c q 37 ((mzR t i).set 28 (.int .u16 (a.1 : Int))) m1 (cellR ((mzR t i).set 28 (.int .u16 (a.1 : Int))) 34 ((rdHs a.2).map fun b => (hesV b.1, b.2))))) (HR c q 37 ((mzR t i).set 28 (.int .u16 (a.1 : Int))) m1 (cellR ((mzR t i).set 28 (.int .u16 (a.1 : Int))) 34 ((rdHs a.2).map fun b => (hesV b.1, b.2)))) [5] [.ptr c 0, .ptr q 0, .ptr q 0, .ptr q 34, .fn 56 [] [.ptr m.length 0], .tup []] (by kernel_rfl) rfl ?_ ?_ ?_
  · refine okN_early 0 rfl rfl rfl rfl (fun i M' hi h => by
      show Option.map (Res.val · M') (loadV Try.prog M' 69 (.ptr m.length 0)) = _
      rw [JR0 h hi, ld69, loadK_ptr, n1]
      rfl) ?_
    refine okN_pure rfl rfl rfl (fun _ _ _ => rfl) ?_
    refine okN_pure rfl rfl rfl (fun _ _ _ => rfl) ?_
    refine okN_pure rfl rfl rfl (fun _ M' _ => by
      show Option.map (Res.val · M') (faddrV Try.prog 37 10 (.ptr q 0)) = _
      rw [fa37_10]
      rfl) ?_
    refine okN_pure rfl rfl rfl (fun _ _ _ => rfl) ?_
    refine okN_call rfl (show calleeV (evO _) _ = some (55, [.ptr c 0, .ptr q 34, .fn 56 [] [.ptr m.length 0]]) by kernel_rfl) rfl rfl (fun m' h => callD_jr hL en55 h) ?_
    exact okN_nil
  rotate_left
  · rintro _ M ⟨rfl, e, kk, l', q', hl⟩
    rw [map_none' (cellR_none e)]
    exact ⟨M, l', rfl, kk1.trans kk, q', by rw [hl]; simp only [List.length_set]⟩
  rintro M2 ⟨l2, r2, e, k2, c2, q2⟩
  obtain ⟨v, e5, rfl⟩ := cellR_some e
  obtain ⟨b, db, e6⟩ := map_some' e5
  cases e6
  simp -implicitDefEqProofs only [sims.1, tick_on, putAll]
  rw [db]
  exact ⟨M2, rfl, kk1.trans k2, c2, q2⟩
set_option maxHeartbeats 1000000 in
theorem snd50r {m : Mem} {c q i k : Nat} {t : Int} {rest : List Nat} (hc : Cr m c rest) (hB : Byt rest) (hk : m[k]? = some (.var 105 [.fn 43 [] []])) (hkc : k ≠ c) (hkq : k ≠ q) (hq : m[q]? = some (.var 37 (mzR t i))) (hqc : q ≠ c) :
    Snd Try.prog 50 [.ptr c 0, .ptr q 0, .ptr k 0] m (RQ c q 37 (mzR t i) m ((rdN 2 rest).bind fun a => (rdP a.2).bind fun b => (rdP b.2).map fun d => ((((mzR t i).set 30 (.int .u16 (a.1 : Int))).set 31 (poV b.1)).set 32 (poV d.1), d.2))) := by
  refine Snd_of_W fol rfl rfl (by kernel_rfl) (by kernel_rfl) ?_
  have hnn : ∀ k o, nonnil (.ptr k o) = true := fun _ _ => rfl
  simp -implicitDefEqProofs only [sims.1, fx.1, keeps.1, tick_on, calleeK, faddrK, nonnil, Nat.reduceEqDiff]
  refine callD_r (snd42r (o := 30) hc hq hqc mz30 hB.1 hB.2) en42 ?_ ?_
  rotate_left
  · intro l' m1 e k1 q1 hl
    rw [map_none' (cellR_none e)]
    exact ⟨m1, l', rfl, k1, q1, hl⟩
  intro l1 r1 m1 e k1 c1 q1
  obtain ⟨v, e5, rfl⟩ := cellR_some e
  obtain ⟨a, da, e6⟩ := map_some' e5
  cases e6
  have B1 := rdN_byt hB da
  have n1 : m1[k]? = some (.var 105 [.fn 43 [] []]) := k1.2 _ _ hkc hkq hk
  rw [da]
  simp only [Option.bind_some]
  simp -implicitDefEqProofs only [sims.1, tick_on]
  refine w_callsP (JR m1 (GR c q 37 ((mzR t i).set 30 (.int .u16 (a.1 : Int))) m1 (cellR ((mzR t i).set 30 (.int .u16 (a.1 : Int))) 31 ((rdP a.2).map fun b => (poV b.1, b.2))))) (HR c q 37 ((mzR t i).set 30 (.int .u16 (a.1 : Int))) m1 (cellR ((mzR t i).set 30 (.int .u16 (a.1 : Int))) 31 ((rdP a.2).map fun b => (poV b.1, b.2)))) [5] [.fn 43 [] [], .ptr c 0, .ptr q 0, .ptr q 0, .ptr q 31, .tup []] (by kernel_rfl) rfl ?_ ?_ ?_
  · refine okN_early 0 rfl rfl rfl rfl (fun i M' hi h => by
      show Option.map (Res.val · M') (loadV Try.prog M' 105 (.ptr k 0)) = _
      rw [JR0 h hi, ld105, loadK_ptr, n1]
      rfl) ?_
    refine okN_pure rfl rfl rfl (fun _ _ _ => rfl) ?_
    refine okN_pure rfl rfl rfl (fun _ _ _ => rfl) ?_
    refine okN_pure rfl rfl rfl (fun _ _ _ => rfl) ?_
    refine okN_pure rfl rfl rfl (fun _ M' _ => by
      show Option.map (Res.val · M') (faddrV Try.prog 37 7 (.ptr q 0)) = _
      rw [fa37_7]
      rfl) ?_
    refine okN_call rfl (show calleeV (evO _) _ = some (43, [.ptr c 0, .ptr q 31]) by kernel_rfl) rfl rfl (fun m' h => callD_jr (snd43r (o := 31) c1 B1 q1 hqc (set_ne' mz31 (by decide))) en43 h) ?_
    exact okN_nil
  rotate_left
  · rintro _ M ⟨rfl, e, kk, l', q', hl⟩
    rw [map_none' (cellR_none e)]
    exact ⟨M, l', rfl, k1.trans kk, q', by rw [hl]; simp only [List.length_set]⟩
  rintro M2 ⟨l2, r2, e, k2, c2, q2⟩
  obtain ⟨v, e5, rfl⟩ := cellR_some e
  obtain ⟨b, db, e6⟩ := map_some' e5
  cases e6
  have B2 : Byt b.2 := rdP_byt B1 db
  have n2 : M2[k]? = some (.var 105 [.fn 43 [] []]) := k2.2 _ _ hkc hkq n1
  rw [db]
  simp only [Option.bind_some]
  simp -implicitDefEqProofs only [sims.1, tick_on, putAll]
  refine w_callsP (JR M2 (GR c q 37 (((mzR t i).set 30 (.int .u16 (a.1 : Int))).set 31 (poV b.1)) M2 (cellR (((mzR t i).set 30 (.int .u16 (a.1 : Int))).set 31 (poV b.1)) 32 ((rdP b.2).map fun b => (poV b.1, b.2))))) (HR c q 37 (((mzR t i).set 30 (.int .u16 (a.1 : Int))).set 31 (poV b.1)) M2 (cellR (((mzR t i).set 30 (.int .u16 (a.1 : Int))).set 31 (poV b.1)) 32 ((rdP b.2).map fun b => (poV b.1, b.2)))) [5] [.fn 43 [] [], .ptr c 0, .ptr q 0, .ptr q 0, .ptr q 32, .tup []] (by kernel_rfl) rfl ?_ ?_ ?_
  · refine okN_early 0 rfl rfl rfl rfl (fun i M' hi h => by
      show Option.map (Res.val · M') (loadV Try.prog M' 105 (.ptr k 0)) = _
      rw [JR0 h hi, ld105, loadK_ptr, n2]
      rfl) ?_
    refine okN_pure rfl rfl rfl (fun _ _ _ => rfl) ?_
    refine okN_pure rfl rfl rfl (fun _ _ _ => rfl) ?_
    refine okN_pure rfl rfl rfl (fun _ _ _ => rfl) ?_
    refine okN_pure rfl rfl rfl (fun _ M' _ => by
      show Option.map (Res.val · M') (faddrV Try.prog 37 8 (.ptr q 0)) = _
      rw [fa37_8]
      rfl) ?_
    refine okN_call rfl (show calleeV (evO _) _ = some (43, [.ptr c 0, .ptr q 32]) by kernel_rfl) rfl rfl (fun m' h => callD_jr (snd43r (o := 32) c2 B2 q2 hqc (set_ne' (set_ne' mz32 (by decide)) (by decide))) en43 h) ?_
    exact okN_nil
  rotate_left
  · rintro _ M ⟨rfl, e, kk, l', q', hl⟩
    rw [map_none' (cellR_none e)]
    exact ⟨M, l', rfl, k1.trans (k2.trans kk), q', by rw [hl]; simp only [List.length_set]⟩
  rintro M3 ⟨l3, r3, e, k3, c3, q3⟩
  obtain ⟨v, e5, rfl⟩ := cellR_some e
  obtain ⟨d, dd, e6⟩ := map_some' e5
  cases e6
  simp -implicitDefEqProofs only [sims.1, tick_on, putAll]
  rw [dd]
  exact ⟨M3, rfl, k1.trans (k2.trans k3), c3, q3⟩
end Go.Proofs.Ytjjenpdjmcmgbaa
