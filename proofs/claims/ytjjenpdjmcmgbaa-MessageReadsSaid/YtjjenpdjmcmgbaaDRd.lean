/- The reference's reader: a rule. No condition. -/
import Derived.Test.YtjjenpdjmcmgbaaDRc
namespace Go.Proofs.Ytjjenpdjmcmgbaa
open Go Ab
set_option linter.unusedSimpArgs false
set_option linter.unusedVariables false
set_option maxRecDepth 20000
theorem frzL_app {m : Mem} {l2 l2' : List V} {m' : Mem} (h : frzL m l2 = some (l2', m')) : ∀ {l1 : List V}, l1.all sty1 = true → frzL m (l1 ++ l2) = some (l1 ++ l2', m')
  | [], _ => h
  | v :: r, hl => by
    simp only [List.all_cons, Bool.and_eq_true] at hl
    have hv : frz m v = some (v, m) := by
      have := hl.1
      cases v <;> first | rfl | (simp [sty1] at this)
    simp only [List.cons_append, frzL, hv, frzL_app h hl.2]
theorem frz_rk {m m' : Mem} {a : Int} {w : Nat → Nat} {L L' : V} {ck : Nat} (h : frz m L = some (L', m')) : frzV m (.agg (rk4 a w L ck)) = some (.agg (rk4 a w L' ck), m') := by
  have h1 : frzL m [L, .int .u64 (ck : Int)] = some ([L', .int .u64 (ck : Int)], m') := by
    simp only [frzL]
    rw [h]
    rfl
  have h2 := frzL_app h1 (l1 := .int .i64 a :: mC w) (by simp [mC, cl, sty1])
  have e : ∀ X : V, rk4 a w X ck = (.int .i64 a :: mC w) ++ [X, .int .u64 (ck : Int)] := fun _ => rfl
  show (match frzL m (rk4 a w L ck) with | some (l', m') => some (V.agg l', m') | none => none) = _
  rw [e L, h2, e L']
theorem agg_set_RV {N : Nat} {ρ : Pl} {I : Nat → Prop} {w : World} {l : List V} {o : Nat} {v v' : V} {x : Value} (h : RV N ρ I w (.agg l) x) (ho : l[o]? = some v) (hv : ∀ {y : Value}, RV N ρ I w v y → RV N ρ I w v' y) : RV N ρ I w (.agg (l.set o v')) x := by
  simp only [RV] at h ⊢
  obtain ⟨c, h1, h2, h3⟩ := h
  refine ⟨c, h1, by simpa using h2, Rc.mk fun i u hu => ?_⟩
  by_cases hi : o = i
  · subst hi
    rw [List.getElem?_set_self (List.getElem?_eq_some_iff.1 ho).1] at hu
    cases hu
    obtain ⟨y, k1, k2, k3⟩ := h3.get o v ho
    exact ⟨y, k1, k2, hv k3⟩
  · rw [List.getElem?_set_ne hi] at hu
    exact h3.get i u hu
theorem rk0x : ([.int .i64 0, .int .u64 0, .int .u64 0, .int .u64 0, .int .u64 0, .int .u64 0, .int .u64 0, .int .u64 0, .int .u64 0, .int .u64 0, .int .u64 0, .int .u64 0, .int .u64 0, .int .u64 0, .int .u64 0, .int .u64 0, .int .u64 0, .int .u64 0, .int .u64 0, .int .u64 0, .int .u64 0, .int .u64 0, .int .u64 0, .nils, .int .u64 0] : List V) = rk4 0 w0 .nils 0 := rfl
theorem bu31r (a : Int) (ck : Nat) : buildV Try.prog 31 [(0, .int .i64 a), (3, .int .u64 (ck : Int))] = some (.agg (rk4 a w0 .nils ck)) := by kernel_rfl
theorem al31r (m : Mem) : allocV Try.prog 31 m = some (.ptr m.length 0, m ++ [.var 31 (rk4 0 w0 .nils 0)]) := by kernel_rfl
theorem RdS.full {m : Mem} {c : Nat} {b : List Nat} {S : Option (List Nat)} (h : RdS m c b S) : ∃ a : Nat, a ≤ b.length ∧ m[c]? = some (.var 77 [byV b, .int .i64 (a : Int), .bool S.isNone]) := by
  cases S with
  | none => obtain ⟨a, h1, h⟩ := h; exact ⟨a, h1, h⟩
  | some r => obtain ⟨a, h1, _, h⟩ := h; exact ⟨a, h1, h⟩
/-- The flag is set. -/
theorem RdS.spoil {m : Mem} {c : Nat} {b : List Nat} {S : Option (List Nat)} (h : RdS m c b S) : ∃ m', (∀ x, storeK 1 m (.ptr c 2) (.bool x) = if x = S.isNone then some m else storeK 1 m (.ptr c 2) (.bool x)) ∧ storeK 1 m (.ptr c 2) (.bool true) = some m' ∧ K1 c m m' ∧ RdS m' c b none := by
  obtain ⟨a, h1, h2⟩ := h.full
  have hc := (List.getElem?_eq_some_iff.1 h2).1
  refine ⟨m.set c (.var 77 [byV b, .int .i64 (a : Int), .bool true]), fun x => ?_, ?_, (K1.refl c m).set _, a, h1, List.getElem?_set_self hc⟩
  · split
    · rename_i e
      rw [storeK_one rfl, h2, e]
      exact congrArg some (set_same h2)
    · rfl
  · rw [storeK_one rfl, h2]
    rfl
theorem K1.setQ {c q : Nat} {m m' : Mem} (h : K1 c m m') (hq : m.length ≤ q) (b : B) : K1 c m (m'.set q b) := ⟨by simpa using h.1, fun k b' h1 h3 => by rw [List.getElem?_set_ne (by have := (List.getElem?_eq_some_iff.1 h3).1; omega)]; exact h.2 k b' h1 h3⟩
theorem add8j (j : Nat) (h : j < 11) : IntKind.i8.wrap ((j : Int) + 1) = ((j + 1 : Nat) : Int) := by simp [IntKind.wrap, IntKind.bits, IntKind.signed]; omega
theorem bs29 {M : Mem} {m0 : Mem} {kk : Nat} {l : List Act} (h : RL 123 3 m0 M kk (l.map acC)) : bsliceV Try.prog 29 1 [(0, bufR 3 kk (l.map acC))] M = some (.sl 1 M.length 0 1, killE M kk (l.map acC) ++ [.row 99 1 [[cpN l]]]) := by
  have h2 : Nat.ble (1 * 1) 16777216 = true := by decide
  have hkn : keepNames Try.prog 99 = false := by kernel_rfl
  have hf : frzP M [(0, bufR 3 kk (l.map acC))] = some ([(0, cpN l)], killE M kk (l.map acC)) := by
    cases l with
    | nil => rfl
    | cons a l =>
      have := frz_row (h (by simp)).1 (by simp)
      have e : bufR 3 kk ((a :: l).map acC) = .sl 3 kk 0 ((a :: l).map acC).length := bufR_cons (by simp)
      rw [e] at this ⊢
      show (match frz M (.sl 3 kk 0 ((a :: l).map acC).length) with | some (v', m1) => (match some (([] : List (Nat × V)), m1) with | some (r', m2) => some ((0, v') :: r', m2) | none => none) | none => none) = _
      rw [this]
      rfl
  have hq : frzQ Try.prog 99 M [(0, bufR 3 kk (l.map acC))] = some ([(0, cpN l)], killE M kk (l.map acC)) := by
    unfold frzQ
    rw [hf, hkn]
    rfl
  have hfe : fillE 1 (List.replicate 1 [V.nils]) [(0, cpN l)] = some [[cpN l]] := by
    unfold cpN
    split <;> rfl
  have hz : zeroE Try.prog 99 = some ([.nils], 1, 24) := ze99L
  simp only [bsliceV, un29L, hz, h2, cond_true, hq, hfe, killE_len]
theorem odd1 (n : Nat) : decide (((n % 2 : Nat) : Int) = 1) = !decide (n % 2 = 0) := by
  have : n % 2 = 0 ∨ n % 2 = 1 := by omega
  rcases this with h | h <;> rw [h] <;> rfl
set_option maxHeartbeats 8000000 in
theorem snd26 {m : Mem} {c : Nat} {b : List Nat} {S : Option (List Nat)} (hb : Byt b) (hS : RdS m c b S) : Snd Try.prog 26 [.ptr c 0] m (QX c m b rdR (fun r => .agg (ruC r)) (fun _ => True) S) := by
  refine Snd_frzR (Q := fun r => ∃ m' kk a w l ck, r = .ret (.agg (rk4 a w (bufR 1 kk (l.map fun c => [cpN c])) ck)) m' ∧ K1 c m m' ∧ RL 99 1 m m' kk (l.map fun c => [cpN c]) ∧ RdS m' c b ((S.bind rdR).map (·.2)) ∧ ∀ p, S.bind rdR = some p → (⟨a, w, l, ck⟩ : Ru) = p.1) ?_ ?_ ?_
  rotate_left
  · rintro v M ⟨m', kk, a, w, l, ck, e, h1, h2, h3, h4⟩
    cases e
    have hcl := hS.lt
    have fin : ∀ {N : Nat} {ρ : Pl} {I : Nat → Prop} {wd : World} {x : Value}, RV N ρ I wd (.agg (rk4 a w (.isl 1 (l.map fun c => [cpN c])) ck)) x → RV N ρ I wd (.agg (ruC ⟨a, w, l, ck⟩)) x := fun h => by
      have := agg_set_RV h (o := 23) rk4_23 (v' := cpsV l) (fun h => cps_RV h)
      rw [rk4_setL] at this
      exact this
    cases l with
    | nil =>
      refine ⟨_, M, .agg (ruC ⟨a, w, [], ck⟩), frz_rk (L' := .nils) rfl, fun h => fin ?_, M, ⟨a, w, [], ck⟩, rfl, h1, h3, trivial, h4⟩
      have := agg_set_RV h (o := 23) rk4_23 (v' := .isl 1 []) (fun h => nil_isl h)
      rw [rk4_setL] at this
      exact this
    | cons d l =>
      obtain ⟨g1, g2⟩ := h2 (by simp)
      refine ⟨_, M.set kk .dead, .agg (ruC ⟨a, w, d :: l, ck⟩), frz_rk (frz_row g1 (by simp)), fun h => fin h, M.set kk .dead, ⟨a, w, d :: l, ck⟩, rfl, ⟨by simpa using h1.1, fun n b' hn hm => by rw [List.getElem?_set_ne (by have := (List.getElem?_eq_some_iff.1 hm).1; omega)]; exact h1.2 n b' hn hm⟩, h3.at (List.getElem?_set_ne (by omega)), trivial, h4⟩
  · rintro v M ⟨m', kk, a, w, l, ck, e, _⟩
    cases e
  refine Snd_of_W fol rfl rfl (by kernel_rfl) (by kernel_rfl) ?_
  have hcl := hS.lt
  have hnn : ∀ k o, nonnil (.ptr k o) = true := fun _ _ => rfl
  have ev : ∀ env, evO env (.const (.slice none 0 0)) = .nils := fun _ => rfl
  simp -implicitDefEqProofs only [sims.1, fx.1, keeps.1, tick_on, calleeK, Nat.reduceEqDiff]
  simp only [rk0x]
  generalize hz : rk4 0 w0 .nils 0 = z
  have hzl : z.length = 25 := by rw [← hz, rk4_len]
  refine callD_n (n := 4) hb (hS.app _) (by omega) (by omega) fun m1 k1 s1 => ?_
  have l1 := nV_lt (n := 4) (hS.byt hb)
  have w1 : IntKind.u32.wrap (nV 4 S : Int) = (nV 4 S : Int) := by rw [IntKind.wrap_u32]; omega
  have w2 := i32w (nV 4 S : Int)
  simp -implicitDefEqProofs only [sims.1, fx.1, keeps.1, tick_on, calleeK, Nat.reduceEqDiff, w1, w2]
  refine callD_n (n := 8) hb s1 (by omega) (by omega) fun m2 k2 s2 => ?_
  have l2 := nV_lt (n := 8) (s1.byt hb)
  have kk2 : K1 c m m2 := (K1.app m _).trans (k1.trans k2)
  have r2 : m2[m.length]? = some (.var 31 z) := k2.2 _ _ (by omega) (k1.2 _ _ (by omega) (by simp))
  simp -implicitDefEqProofs only [sims.1, fx.1, keeps.1, tick_on, calleeK, Nat.reduceAdd, Nat.reduceEqDiff, bu31r, storeK_agg, rk4_len, at_app0, set_app0, Nat.le_refl]
  simp only [rk0x, hz]
  have spz : ∀ l : List V, l.length = 25 → splice z 0 l = l := fun l hl => splice_all (by rw [hzl, hl])
  rw [spz _ (rk4_len _ _ _ _)]
  generalize hrk : IntKind.i32.wrap (nV 4 S : Int) = rk
  generalize hck : nV 8 (nS 4 S) = ck at l2
  generalize hS2 : nS 8 (nS 4 S) = S2 at s2
  refine callD_n (n := 2) hb (s2.app _) (by omega) (by omega) fun m3 k3 s3 => ?_
  have l3 := nV_lt (n := 2) (s2.byt hb)
  have hq3 : m.length < m2.length := by have := (List.getElem?_eq_some_iff.1 r2).1; omega
  have t2 : m3[m.length]? = some (.var 31 z) := k3.2 _ _ (by omega) (by rw [List.getElem?_append_left hq3]; exact r2)
  have t3 : m3[m2.length]? = some (.var 31 (rk4 rk w0 .nils ck)) := k3.2 _ _ (by omega) (by simp)
  have kk3 : K1 c m m3 := kk2.trans ((K1.app m2 _).trans k3)
  generalize m2.length = q at t3 hq3 ⊢
  clear k1 k2 s1 r2 kk2 k3
  have s11 := shrW (nV 2 S2) 11 (by omega)
  have z11 := eqC0 (nV 2 S2 / 2 ^ 11)
  obtain ⟨m3', _, g2, g3, g4⟩ := s3.spoil
  cases e11 : decide (nV 2 S2 / 2 ^ 11 = 0) <;> rw [e11] at z11
  case' false =>
    have hsr : RdS m3' c b (if nV 2 S2 / 2 ^ 11 = 0 then nS 2 S2 else none) := by rw [if_neg (of_decide_eq_false e11)]; exact g4
    have t2 := g3.2 _ _ (by omega) t2
    have t3 := g3.2 _ _ (by omega) t3
    have kk3 := kk3.trans g3
    clear s3 g3 g4
    simp -implicitDefEqProofs only [sims.1, fx.1, keeps.1, tick_on, faddrK, nonnil, b_shr, Nat.reduceEqDiff, Int.reduceLT, Int.reduceToNat, s11, z11, g2]
    clear g2
    generalize m3' = M4 at hsr t2 t3 kk3 ⊢
  case' true =>
    have hsr : RdS m3 c b (if nV 2 S2 / 2 ^ 11 = 0 then nS 2 S2 else none) := by rw [if_pos (of_decide_eq_true e11)]; exact s3
    clear s3 g2 g3 g4 m3'
    simp -implicitDefEqProofs only [sims.1, keeps.1, tick_on, b_shr, Nat.reduceEqDiff, Int.reduceLT, Int.reduceToNat, s11, z11]
    generalize m3 = M4 at hsr t2 t3 kk3 ⊢
  all_goals
    have hfin := @RF.fin S2
    generalize hbits : nV 2 S2 = bits at l3 hsr hfin ⊢
    generalize hS3 : (if bits / 2 ^ 11 = 0 then nS 2 S2 else none) = S3 at hsr hfin
    refine W_loopM (fun j : Nat => [(4, V.int .u64 (bits : Int)), (5, V.int .i8 (j : Int)), (0, V.ptr c 0), (3, V.ptr q 0), (2, V.ptr m.length 0)])
      (fun j M => j ≤ 11 ∧ ∃ w S', K1 c m M ∧ RdS M c b S' ∧ RF bits S3 j w S' ∧ M[m.length]? = some (.var 31 z) ∧ M[q]? = some (.var 31 (rk4 rk w .nils ck))) (fun j => 12 - j) 0 (by kernel_rfl)
      ⟨by omega, w0, S3, kk3, hsr, ?_, t2, t3⟩ ?_
    · cases S3 with
      | some r => exact ⟨r, rfl, rfl⟩
      | none => rfl
    clear kk3 hsr t2 t3 M4
    rintro j M ⟨h1, w, S', h2, h3, h4, h5, h6⟩
    have lt1 := lt11i j
    cases d1 : decide (j < 11)
    rotate_left
    · have hj := of_decide_eq_true d1
      have w1' := wrapU j (by omega)
      have sh := shrW bits j (by omega)
      have an := and1 (bits / 2 ^ j) (Nat.lt_of_le_of_lt (Nat.div_le_self _ _) (by omega))
      have od := odd1 (bits / 2 ^ j)
      have n1 : ¬ ((j : Int) < 0) := by omega
      have w8 := add8j j hj
      cases d2 : decide (bits / 2 ^ j % 2 = 0)
      rotate_left
      · rw [d2] at od
        simp -implicitDefEqProofs only [sims.1, fx.1, keeps.1, tick_on, b_shr, Nat.reduceEqDiff, lt1, d1, w1', n1, Int.toNat_natCast, sh, an, od, w8]
        exact ⟨j + 1, by kernel_rfl, ⟨by omega, w, S', h2, h3, h4.skip (of_decide_eq_true d2), h5, h6⟩, by omega⟩
      rw [d2] at od
      have hb2 := of_decide_eq_false d2
      have hst := h4.step hj hb2
      obtain ⟨z1, z2, _⟩ := sz_ok hj
      simp -implicitDefEqProofs only [sims.1, fx.1, keeps.1, tick_on, calleeK, b_shr, Nat.reduceEqDiff, lt1, d1, w1', n1, Int.toNat_natCast, sh, an, od]
      refine callD_ans (ans61 j hj) en61 rfl rfl ?_
      simp -implicitDefEqProofs only [sims.1, keeps.1, tick_on, calleeK, Nat.reduceEqDiff]
      refine callD_n (n := sz j) hb h3 z1 (by omega) fun M1 k1 s1 => ?_
      have lv1 := nV_lt (n := sz j) (h3.byt hb)
      generalize hv : nV (sz j) S' = v at hst lv1 ⊢
      generalize hSa : nS (sz j) S' = Sa at hst s1
      have i1 : ∀ {kk : IntKind}, iaddrA 11 1 (.ptr q 1) (.int kk (j : Int)) = some (.ptr q (1 + j)) := fun {kk} => by rw [iaddrA_nat hj, Nat.mul_one]
      have i2 : ∀ {kk : IntKind}, iaddrA 11 1 (.ptr q 12) (.int kk (j : Int)) = some (.ptr q (1 + (11 + j))) := fun {kk} => by rw [iaddrA_nat hj, Nat.mul_one]; congr 2; omega
      have q1 : M1[q]? = some (.var 31 (rk4 rk w .nils ck)) := k1.2 _ _ (by omega) h6
      have z1' : M1[m.length]? = some (.var 31 z) := k1.2 _ _ (by omega) h5
      have o1 : 1 + j < 25 := by omega
      have o2 : 1 + (11 + j) < 25 := by omega
      have st1 : ∀ (w' : Nat → Nat) (x : Nat), (rk4 rk w' .nils ck).set (1 + j) (.int .u64 (x : Int)) = rk4 rk (updN w' j x) .nils ck := fun w' x => rk4_setM (by omega)
      have st2 : ∀ (w' : Nat → Nat) (x : Nat), (rk4 rk w' .nils ck).set (1 + (11 + j)) (.int .u64 (x : Int)) = rk4 rk (updN w' (11 + j) x) .nils ck := fun w' x => rk4_setM (by omega)
      simp -implicitDefEqProofs only [sims.1, fx.1, keeps.1, tick_on, calleeK, faddrK, Nat.reduceEqDiff, i1, q1, rk4_len, o1, st1]
      generalize hM2 : M1.set q (.var 31 (rk4 rk (updN w j v) .nils ck)) = M2
      have q2 : M2[q]? = some (.var 31 (rk4 rk (updN w j v) .nils ck)) := by rw [← hM2]; exact List.getElem?_set_self (List.getElem?_eq_some_iff.1 q1).1
      have z2' : M2[m.length]? = some (.var 31 z) := by rw [← hM2, List.getElem?_set_ne (by omega)]; exact z1'
      have s2' : RdS M2 c b Sa := s1.at (by rw [← hM2]; exact List.getElem?_set_ne (by omega))
      have kM2 : K1 c m M2 := by rw [← hM2]; exact (h2.trans k1).setQ (by omega) _
      clear hM2 q1 z1' s1 k1
      refine callD_ans (ans61 j hj) en61 rfl rfl ?_
      simp -implicitDefEqProofs only [sims.1, keeps.1, tick_on, calleeK, Nat.reduceEqDiff]
      refine callD_n (n := sz j) hb s2' z1 (by omega) fun M3 k3 s3 => ?_
      have lv2 := nV_lt (n := sz j) (s2'.byt hb)
      generalize hmk : nV (sz j) Sa = mk at hst lv2 ⊢
      generalize hSb : nS (sz j) Sa = Sb at hst s3
      have q3 : M3[q]? = some (.var 31 (rk4 rk (updN w j v) .nils ck)) := k3.2 _ _ (by omega) q2
      have z3' : M3[m.length]? = some (.var 31 z) := k3.2 _ _ (by omega) z2'
      simp -implicitDefEqProofs only [sims.1, fx.1, keeps.1, tick_on, faddrK, nonnil, Nat.reduceAdd, Nat.reduceEqDiff, i2, q3, rk4_len, o2, st2]
      generalize hM4 : M3.set q (.var 31 (rk4 rk (updN (updN w j v) (11 + j) mk) .nils ck)) = M4
      have q4 : M4[q]? = some (.var 31 (rk4 rk (updN (updN w j v) (11 + j) mk) .nils ck)) := by rw [← hM4]; exact List.getElem?_set_self (List.getElem?_eq_some_iff.1 q3).1
      have z4' : M4[m.length]? = some (.var 31 z) := by rw [← hM4, List.getElem?_set_ne (by omega)]; exact z3'
      have s4' : RdS M4 c b Sb := s3.at (by rw [← hM4]; exact List.getElem?_set_ne (by omega))
      have kM4 : K1 c m M4 := by rw [← hM4]; exact (kM2.trans k3).setQ (by omega) _
      clear hM4 q3 z3' s3 k3 kM2 q2 z2' s2'
      have am : (rk4 rk (updN (updN w j v) (11 + j) mk) .nils ck)[1 + (11 + j)]? = some (.int .u64 (mk : Int)) := by
        rw [rk4_atM (by omega)]
        unfold updN
        rw [if_pos rfl]
      have em := eqC0 mk
      obtain ⟨a4, _, f4⟩ := s4'.full
      obtain ⟨M5, g1, g2, g3, g4⟩ := s4'.spoil
      cases Sb with
      | none =>
        have g1 := (g1 true).trans (if_pos rfl)
        simp only [Option.isNone_none] at f4
        simp only [ite_self] at hst
        simp -implicitDefEqProofs only [sims.1, fx.1, keeps.1, tick_on, faddrK, nonnil, Nat.reduceEqDiff, f4, g1, w8]
        exact ⟨j + 1, by kernel_rfl, ⟨by omega, _, none, kM4, s4', hst, z4', q4⟩, by omega⟩
      | some rb =>
        simp only [Option.isNone_some] at f4
        cases em0 : decide (mk = 0)
        · have g1 := (g1 false).trans (if_pos rfl)
          rw [em0] at em
          rw [if_neg (of_decide_eq_false em0)] at hst
          simp -implicitDefEqProofs only [sims.1, fx.1, keeps.1, tick_on, faddrK, nonnil, Nat.reduceAdd, Nat.reduceEqDiff, f4, i2, q4, am, em, g1, w8]
          exact ⟨j + 1, by kernel_rfl, ⟨by omega, _, some rb, kM4, s4', hst, z4', by first | exact q4 | rfl⟩, by omega⟩
        · rw [em0] at em
          rw [if_pos (of_decide_eq_true em0)] at hst
          simp -implicitDefEqProofs only [sims.1, fx.1, keeps.1, tick_on, faddrK, nonnil, Nat.reduceAdd, Nat.reduceEqDiff, f4, i2, q4, am, em, g2, w8]
          exact ⟨j + 1, by kernel_rfl, ⟨by omega, _, none, kM4.trans g3, g4, hst, g3.2 _ _ (by omega) z4', g3.2 _ _ (by omega) q4⟩, by omega⟩
    · obtain rfl : j = 11 := by have := of_decide_eq_false d1; omega
      obtain ⟨e1, e2⟩ := hfin h4
      simp -implicitDefEqProofs only [sims.1, keeps.1, tick_on, calleeK, Nat.reduceEqDiff, Int.reduceLT, Int.cast_ofNat_Int]
      have hbn := RP.bind (rdL rdAc) S'
      refine callD_n (n := 2) hb h3 (by omega) (by omega) fun M1 k1 s1 => ?_
      have ln := nV_lt (n := 2) (h3.byt hb)
      generalize hn : nV 2 S' = n at hbn ln ⊢
      generalize hSb : nS 2 S' = Sb at hbn s1
      have hbn : Sb.bind (fun r1 => rdMany (rdL rdAc) r1 n) = S'.bind (rdL (rdL rdAc)) := hbn
      have wn : IntKind.i64.wrap (n : Int) = (n : Int) := by rw [IntKind.wrap_i64]; omega
      simp -implicitDefEqProofs only [sims.1, fx.1, keeps.1, tick_on, Nat.reduceEqDiff, wn]
      have q1 : M1[q]? = some (.var 31 (rk4 rk w .nils ck)) := k1.2 _ _ (by omega) h6
      have z1 : M1[m.length]? = some (.var 31 z) := k1.2 _ _ (by omega) h5
      refine W_loopM (fun i : Nat => [(6, V.int .i64 (n : Int)), (0, V.ptr c 0), (7, V.int .i64 (i : Int)), (3, V.ptr q 0), (2, V.ptr m.length 0)])
        (fun i M => i ≤ n ∧ ∃ l S'' kk, K1 c m M ∧ RdS M c b S'' ∧ RP (rdL rdAc) Sb n i l S'' ∧ l.length = i ∧ RL 99 1 m M kk (l.map fun c => [cpN c]) ∧ M[m.length]? = some (.var 31 z) ∧ M[q]? = some (.var 31 (rk4 rk w (bufR 1 kk (l.map fun c => [cpN c])) ck))) (fun i => n + 1 - i) 0 (by kernel_rfl)
        ⟨by omega, [], Sb, 0, h2.trans k1, s1, ?_, rfl, fun h => absurd rfl h, z1, q1⟩ ?_
      · cases Sb with
        | some r => exact ⟨r, rfl, rfl⟩
        | none => rfl
      clear q1 z1 s1 k1 h2 h3 h4 h5 h6 M M1
      rintro i M ⟨h1, l, S'', kk, h2, h3, h4, hli, h5, h6, h7⟩
      have lt2 : decide ((i : Int) < (n : Int)) = decide (i < n) := by rw [Bool.eq_iff_iff]; simp
      obtain ⟨a0, _, hbad⟩ := h3.full
      have spl : ∀ L : V, splice z 0 (rk4 rk w L ck) = rk4 rk w L ck := fun L => spz _ (rk4_len _ _ _ _)
      have pkl : ∀ L : V, partK true 25 (rk4 rk w L ck) 0 = some (.agg (rk4 rk w L ck)) := fun L => partK_row (rk4_len _ _ _ _)
      have res : ∀ (a : Nat × V), True := fun _ => trivial
      -- the end
      have fin : (i = n ∨ S'' = none) → S'' = (S.bind rdR).map (·.2) ∧ ∀ p, S.bind rdR = some p → (⟨rk, w, l, ck⟩ : Ru) = p.1 := by
        intro hi
        obtain ⟨f1, f2⟩ := h4.fin hi
        rw [hbn] at f1 f2
        cases S with
        | none =>
          have : S2 = none := by rw [← hS2]; rfl
          rw [this] at e1
          have e1 : S' = none := e1
          rw [e1] at f1
          exact ⟨f1, fun p hp => by cases hp⟩
        | some r0 =>
          rw [Option.bind_some]
          unfold rdR
          cases d4 : rdN 4 r0 with
          | none =>
            have : S2 = none := by rw [← hS2]; unfold nS; rw [Option.bind_some, d4]; rfl
            rw [this] at e1
            have e1 : S' = none := e1
            rw [e1] at f1
            exact ⟨f1, fun p hp => by cases hp⟩
          | some pa =>
            have g4 : nS 4 (some r0) = some pa.2 := by unfold nS; rw [Option.bind_some, d4]; rfl
            have v4 : nV 4 (some r0) = pa.1 := by unfold nV; rw [Option.bind_some, d4]
            rw [Option.bind_some]
            cases d8 : rdN 8 pa.2 with
            | none =>
              have : S2 = none := by rw [← hS2, g4]; unfold nS; rw [Option.bind_some, d8]; rfl
              rw [this] at e1
              have e1 : S' = none := e1
              rw [e1] at f1
              exact ⟨f1, fun p hp => by cases hp⟩
            | some pb =>
              have g8 : S2 = some pb.2 := by rw [← hS2, g4]; unfold nS; rw [Option.bind_some, d8]; rfl
              have v8 : ck = pb.1 := by rw [← hck, g4]; unfold nV; rw [Option.bind_some, d8]
              rw [Option.bind_some]
              rw [g8, Option.bind_some] at e1 e2
              cases dm : rdM pb.2 with
              | none =>
                rw [dm] at e1
                have e1 : S' = none := e1
                rw [e1] at f1
                exact ⟨f1, fun p hp => by cases hp⟩
              | some pw =>
                have ew := e2 pw dm
                rw [dm] at e1
                have e1 : S' = some pw.2 := e1
                rw [e1, Option.bind_some] at f1 f2
                rw [Option.bind_some]
                cases dl : rdL (rdL rdAc) pw.2 with
                | none =>
                  rw [dl] at f1
                  exact ⟨f1, fun p hp => by cases hp⟩
                | some pl =>
                  rw [dl] at f1
                  have fl := f2 pl dl
                  refine ⟨f1, fun p hp => ?_⟩
                  cases hp
                  rw [← hrk, v4, v8, ew, fl]
      have gs : ∀ B : B, (M.set m.length B)[m.length]? = some B := fun B => List.getElem?_set_self (List.getElem?_eq_some_iff.1 h6).1
      have done : ∀ B : B, K1 c m (M.set m.length B) ∧ RL 99 1 m (M.set m.length B) kk (l.map fun c => [cpN c]) ∧ RdS (M.set m.length B) c b S'' := fun B =>
        ⟨h2.setQ (Nat.le_refl _) _, fun he => ⟨by rw [List.getElem?_set_ne (fun e => by have := (h5 he).1; rw [← e, h6] at this; cases this)]; exact (h5 he).1, (h5 he).2⟩, h3.at (List.getElem?_set_ne (by omega))⟩
      cases d3 : decide (i < n)
      · obtain rfl : i = n := by have := of_decide_eq_false d3; omega
        obtain ⟨f1, f2⟩ := fin (.inl rfl)
        obtain ⟨y1, y2, y3⟩ := done (.var 31 (rk4 rk w (bufR 1 kk (l.map fun c => [cpN c])) ck))
        simp -implicitDefEqProofs only [sims.1, fx.1, keeps.1, tick_on, Nat.reduceEqDiff, lt2, d3, h7, pkl, storeK_agg, rk4_len, h6, hzl, spl, Nat.le_refl, gs]
        exact ⟨_, kk, rk, w, l, ck, rfl, y1, y2, f1 ▸ y3, f2⟩
      have hi := of_decide_eq_true d3
      cases S'' with
      | none =>
        simp only [Option.isNone_none] at hbad
        obtain ⟨f1, f2⟩ := fin (.inr rfl)
        obtain ⟨y1, y2, y3⟩ := done (.var 31 (rk4 rk w (bufR 1 kk (l.map fun c => [cpN c])) ck))
        simp -implicitDefEqProofs only [sims.1, fx.1, keeps.1, tick_on, faddrK, nonnil, Nat.reduceEqDiff, lt2, d3, hbad, h7, pkl, storeK_agg, rk4_len, h6, hzl, spl, Nat.le_refl, gs]
        exact ⟨_, kk, rk, w, l, ck, rfl, y1, y2, f1 ▸ y3, f2⟩
      | some r =>
      simp only [Option.isNone_some] at hbad
      clear fin done gs res spl pkl hfin e1 e2
      simp -implicitDefEqProofs only [sims.1, fx.1, keeps.1, tick_on, calleeK, faddrK, nonnil, Nat.reduceEqDiff, lt2, d3, hbad, ev]
      refine callD_n (n := 2) hb h3 (by omega) (by omega) fun Mo ko so => ?_
      have hbk := RP.bind rdAc (some r)
      have lk := nV_lt (n := 2) (h3.byt hb)
      generalize hk : nV 2 (some r) = k at hbk lk ⊢
      generalize hSk : nS 2 (some r) = Sk at hbk so
      have hbk : Sk.bind (fun r1 => rdMany rdAc r1 k) = rdL rdAc r := hbk
      have wk : IntKind.i64.wrap (k : Int) = (k : Int) := by rw [IntKind.wrap_i64]; omega
      simp -implicitDefEqProofs only [sims.1, fx.1, keeps.1, tick_on, Nat.reduceEqDiff, wk]
      have q1 : Mo[q]? = some (.var 31 (rk4 rk w (bufR 1 kk (l.map fun c => [cpN c])) ck)) := ko.2 _ _ (by omega) h7
      have z1 : Mo[m.length]? = some (.var 31 z) := ko.2 _ _ (by omega) h6
      have R1 : RL 99 1 m Mo kk (l.map fun c => [cpN c]) := h5.k1 ko hcl
      have kMo : K1 c m Mo := h2.trans ko
      have hcMo : c < Mo.length := so.lt
      clear h2 h3 h5 h6 h7 ko hbad
      refine W_loopM (fun x : Nat × V => [(9, V.int .i64 (k : Int)), (10, V.int .i64 (x.1 : Int)), (8, x.2), (7, V.int .i64 (i : Int)), (6, V.int .i64 (n : Int)), (0, V.ptr c 0), (3, V.ptr q 0), (2, V.ptr m.length 0)])
        (fun x M => x.1 ≤ k ∧ ∃ l2 S3 k2, x.2 = bufR 3 k2 (l2.map acC) ∧ K1 c Mo M ∧ RdS M c b S3 ∧ RL 123 3 Mo M k2 (l2.map acC) ∧ RP rdAc Sk k x.1 l2 S3 ∧ l2.length = x.1) (fun x => k + 1 - x.1) (0, .nils) (by kernel_rfl)
        ⟨by omega, [], Sk, 0, rfl, K1.refl _ _, so, fun h => absurd rfl h, ?_, rfl⟩ ?_
      · cases Sk with
        | some r => exact ⟨r, rfl, rfl⟩
        | none => rfl
      clear so
      rintro ⟨j, v⟩ M ⟨g1, l2, S3, k2, rfl, g2, g3, g4, g5, g6⟩
      simp only at g1 g5 g6
      have lt3 : decide ((j : Int) < (k : Int)) = decide (j < k) := by rw [Bool.eq_iff_iff]; simp
      obtain ⟨a1, _, hbad⟩ := g3.full
      have q2 := g2.2 _ _ (by omega) q1
      have z2 := g2.2 _ _ (by omega) z1
      have R2 := R1.k1 g2 hcl
      by_cases hgo : j < k ∧ S3.isNone = false
      · obtain ⟨hj, hs⟩ := hgo
        obtain ⟨r3, rfl⟩ : ∃ r3, S3 = some r3 := by cases S3 with
          | none => cases hs
          | some r3 => exact ⟨r3, rfl⟩
        have d4 : decide (j < k) = true := by simpa using hj
        simp only [Option.isNone_some] at hbad
        simp -implicitDefEqProofs only [sims.1, fx.1, keeps.1, tick_on, calleeK, faddrK, nonnil, Nat.reduceEqDiff, lt3, d4, hbad]
        refine callD_n (n := 1) hb g3 (by omega) (by omega) fun M1 k1 s1 => ?_
        have la := nV_lt (n := 1) (g3.byt hb)
        simp -implicitDefEqProofs only [sims.1, fx.1, keeps.1, tick_on, calleeK, Nat.reduceEqDiff]
        refine callD_n (n := 1) hb s1 (by omega) (by omega) fun M2 k2' s2' => ?_
        have lb := nV_lt (n := 1) (s1.byt hb)
        simp -implicitDefEqProofs only [sims.1, fx.1, keeps.1, tick_on, calleeK, Nat.reduceEqDiff]
        refine callD_n (n := 8) hb s2' (by omega) (by omega) fun M3 k3 s3 => ?_
        have kM3 : K1 c Mo M3 := g2.trans (k1.trans (k2'.trans k3))
        have hR3 := g4.k1 (k1.trans (k2'.trans k3)) hcMo
        have hst := g5.step hj (actS (some r3)) (nS 8 (nS 1 (nS 1 (some r3)))) (fun r' hr => actS_some hr) (fun hr => actS_none hr)
        have bu : buildV Try.prog 123 [(0, .int .i8 (IntKind.i8.wrap (nV 1 (some r3) : Int))), (1, .int .i8 (IntKind.i8.wrap (nV 1 (nS 1 (some r3)) : Int))), (2, .int .u64 (nV 8 (nS 1 (nS 1 (some r3))) : Int))] = some (.agg (acC (actS (some r3)))) := by kernel_rfl
        have hb1 : bsliceV Try.prog 99 1 [(0, .agg (acC (actS (some r3))))] M3 = some (.sl 3 M3.length 0 1, M3 ++ [.row 123 3 [acC (actS (some r3))]]) := bs1 (P := Try.prog) (m := M3) (v := .agg (acC (actS (some r3)))) un99L ze123L (by simp [stys, sty, sty1, acC]) rfl (by omega) rfl
        generalize hac : actS (some r3) = ac at hst bu hb1
        generalize nS 8 (nS 1 (nS 1 (some r3))) = S4 at s3 hst
        have hap := apR (P := Try.prog) (m := M3 ++ [.row 123 3 [acC ac]]) (x := acC ac) (es := l2.map acC) (k := M3.length) (n := k2) un99L ze123L is99L (by omega) at_app0 (fun he => by rw [List.getElem?_append_left (List.getElem?_eq_some_iff.1 (hR3 he).1).1]; exact (hR3 he).1) (by rw [List.length_map]; omega)
        have w2' := add1N j (by omega)
        simp -implicitDefEqProofs only [sims.1, keeps.1, tick_on, Nat.reduceEqDiff, bu, hb1, hap, w2']
        refine ⟨(j + 1, bufR 3 (M3 ++ [B.row 123 3 [acC ac]]).length (l2.map acC ++ [acC ac])), by kernel_rfl, ⟨by omega, l2 ++ [ac], S4, (M3 ++ [B.row 123 3 [acC ac]]).length, by simp, ?_, ?_, ?_, hst, by simp [g6]⟩, by simp only; omega⟩
        · exact kM3.S2 (E := 123) (s := 3) (x := acC ac) fun he => (hR3 he).2
        · exact s3.S2 (E := 123) (s := 3) (x := acC ac) fun he => by have := (hR3 he).2; omega
        · intro _
          have hl2 : (killE (S1 M3 123 3 (acC ac)) k2 (l2.map acC)).length = (M3 ++ [B.row 123 3 [acC ac]]).length := by rw [killE_len]; rfl
          refine ⟨?_, by have := kM3.1; simp; omega⟩
          rw [List.map_append]
          show (killE (S1 M3 123 3 (acC ac)) k2 (l2.map acC) ++ [B.row 123 3 (l2.map acC ++ [acC ac])])[(M3 ++ [B.row 123 3 [acC ac]]).length]? = _
          rw [← hl2]
          exact at_app0
      · have hend : j = k ∨ S3 = none := by
          rcases Nat.lt_or_ge j k with h | h
          · right
            cases S3 with
            | none => rfl
            | some r => exact absurd ⟨h, rfl⟩ hgo
          · left; omega
        obtain ⟨f1, f2⟩ := g5.fin hend
        rw [hbk] at f1 f2
        have hst := h4.step hi l2 S3 (fun r' hr => by
          rw [hr] at f1
          cases e : rdL rdAc r with
          | none => rw [e] at f1; cases f1
          | some p => rw [e] at f1; cases f1; rw [f2 p e]) (fun hr => by
          rw [hr] at f1
          cases e : rdL rdAc r with
          | none => rfl
          | some p => rw [e] at f1; cases f1)
        have kmM := kMo.trans g2
        have hb9 := bs29 g4
        have hkl : (killE M k2 (l2.map acC)).length = M.length := killE_len _ _ _
        have ne1 : l2.map acC ≠ [] → ∀ {t : Nat} {x : List V} {n' : Nat}, M[n']? = some (.var t x) → n' ≠ k2 := fun he t x n' h e => by
          have := (g4 he).1
          rw [← e, h] at this
          cases this
        have ne2 : l2.map acC ≠ [] → ∀ {es : List (List V)}, M[kk]? = some (.row 99 1 es) → kk ≠ k2 := fun he es h e => by
          have := (g4 he).1
          rw [← e, h] at this
          cases this
        generalize hMk : killE M k2 (l2.map acC) = Mk at hb9 hkl
        have qk : Mk[q]? = some (.var 31 (rk4 rk w (bufR 1 kk (l.map fun c => [cpN c])) ck)) := by rw [← hMk, killE_at fun he => ne1 he q2]; exact q2
        have zk : Mk[m.length]? = some (.var 31 z) := by rw [← hMk, killE_at fun he => ne1 he z2]; exact z2
        have Rk : RL 99 1 m Mk kk (l.map fun c => [cpN c]) := fun he => ⟨by rw [← hMk, killE_at fun he2 => ne2 he2 (R2 he).1]; exact (R2 he).1, (R2 he).2⟩
        have kk' : K1 c m Mk := ⟨by rw [hkl]; exact kmM.1, fun n' b' hn hm => by
          rw [← hMk, killE_at fun he => by
            have h1 := (g4 he).2
            have h2 := (List.getElem?_eq_some_iff.1 hm).1
            have h3 := kMo.1
            omega]
          exact kmM.2 n' b' hn hm⟩
        have sk : RdS Mk c b S3 := g3.at (by rw [← hMk]; exact killE_at fun he => by have := (g4 he).2; omega)
        have hql := (List.getElem?_eq_some_iff.1 qk).1
        have hml := (List.getElem?_eq_some_iff.1 zk).1
        have hap := apR (P := Try.prog) (m := Mk ++ [.row 99 1 [[cpN l2]]]) (x := [cpN l2]) (es := l.map fun c => [cpN c]) (k := Mk.length) (n := kk) un29L ze99L is29L (by omega) at_app0 (fun he => by rw [List.getElem?_append_left (List.getElem?_eq_some_iff.1 (Rk he).1).1]; exact (Rk he).1) (by rw [List.length_map]; omega)
        have w3 := add1N i (by omega)
        rw [← hkl] at hb9
        generalize hMz : killE (Mk ++ [B.row 99 1 [[cpN l2]]]) kk (l.map fun c => [cpN c]) ++ [B.row 99 1 ((l.map fun c => [cpN c]) ++ [[cpN l2]])] = Mz at hap
        have hMz' : Go.Proofs.Ytjjenpdjmcmgbaa.S2 Mk 99 1 kk (l.map fun c => [cpN c]) [cpN l2] = Mz := hMz
        have nq : (l.map fun c => [cpN c]) ≠ [] → ∀ {t : Nat} {x : List V} {n' : Nat}, Mk[n']? = some (.var t x) → n' ≠ kk := fun he t x n' h e => by
          have := (Rk he).1
          rw [← e, h] at this
          cases this
        have qz : Mz[q]? = some (.var 31 (rk4 rk w (bufR 1 kk (l.map fun c => [cpN c])) ck)) := by rw [← hMz']; exact S2_at qk fun he => nq he qk
        have zz : Mz[m.length]? = some (.var 31 z) := by rw [← hMz']; exact S2_at zk fun he => nq he zk
        have kz : K1 c m Mz := by rw [← hMz']; exact kk'.S2 fun he => (Rk he).2
        have sz' : RdS Mz c b S3 := by rw [← hMz']; exact sk.S2 fun he => by have := (Rk he).2; omega
        have lz : Mz.length = Mk.length + 2 := by rw [← hMz', S2_len]
        have rz : Mz[(Mk ++ [B.row 99 1 [[cpN l2]]]).length]? = some (.row 99 1 ((l ++ [l2]).map fun c => [cpN c])) := by
          have hl2 : (killE (Mk ++ [B.row 99 1 [[cpN l2]]]) kk (l.map fun c => [cpN c])).length = (Mk ++ [B.row 99 1 [[cpN l2]]]).length := killE_len _ _ _
          rw [← hMz, ← hl2, List.map_append]
          exact at_app0
        have stL : storeK 1 Mz (.ptr q 23) (bufR 1 (Mk ++ [B.row 99 1 [[cpN l2]]]).length ((l.map fun c => [cpN c]) ++ [[cpN l2]])) = some (Mz.set q (.var 31 (rk4 rk w (bufR 1 (Mk ++ [B.row 99 1 [[cpN l2]]]).length ((l ++ [l2]).map fun c => [cpN c])) ck))) := by
          rw [bufR_snoc, storeK_one rfl, qz]
          have e25 : 23 < (rk4 rk w (bufR 1 kk (l.map fun c => [cpN c])) ck).length := by rw [rk4_len]; omega
          simp only [Option.bind_some, if_pos e25, rk4_setL]
          rw [List.map_append]
          show some (Mz.set q (.var 31 (rk4 rk w (.sl 1 _ 0 _) ck))) = some (Mz.set q (.var 31 (rk4 rk w (bufR 1 _ (_ ++ [[cpN l2]])) ck)))
          rw [bufR_snoc]
        generalize hkn : (Mk ++ [B.row 99 1 [[cpN l2]]]).length = kn at hap rz stL
        have hkn' : kn = Mk.length + 1 := by rw [← hkn]; simp
        have fin2 : i + 1 ≤ n ∧ ∃ l' S'' kk', K1 c m (Mz.set q (.var 31 (rk4 rk w (bufR 1 kn ((l ++ [l2]).map fun c => [cpN c])) ck))) ∧ RdS (Mz.set q (.var 31 (rk4 rk w (bufR 1 kn ((l ++ [l2]).map fun c => [cpN c])) ck))) c b S'' ∧ RP (rdL rdAc) Sb n (i + 1) l' S'' ∧ l'.length = i + 1 ∧ RL 99 1 m (Mz.set q (.var 31 (rk4 rk w (bufR 1 kn ((l ++ [l2]).map fun c => [cpN c])) ck))) kk' (l'.map fun c => [cpN c]) ∧ (Mz.set q (.var 31 (rk4 rk w (bufR 1 kn ((l ++ [l2]).map fun c => [cpN c])) ck)))[m.length]? = some (.var 31 z) ∧ (Mz.set q (.var 31 (rk4 rk w (bufR 1 kn ((l ++ [l2]).map fun c => [cpN c])) ck)))[q]? = some (.var 31 (rk4 rk w (bufR 1 kk' (l'.map fun c => [cpN c])) ck)) :=
          ⟨by omega, l ++ [l2], S3, kn, kz.setQ (by omega) _, sz'.at (List.getElem?_set_ne (by omega)), hst, by simp [hli], fun _ => ⟨by rw [List.getElem?_set_ne (by omega)]; exact rz, by have := kk'.1; omega⟩, by rw [List.getElem?_set_ne (by omega)]; exact zz, List.getElem?_set_self (by omega)⟩
        cases d4 : decide (j < k)
        · simp -implicitDefEqProofs only [sims.1, fx.1, keeps.1, tick_on, faddrK, Nat.reduceEqDiff, lt3, d4, q2, rk4_23, hb9, hap, stL, w3]
          exact ⟨i + 1, by kernel_rfl, fin2, by omega⟩
        · have hs : S3 = none := hend.resolve_left (by have := of_decide_eq_true d4; omega)
          rw [hs] at hbad
          simp only [Option.isNone_none] at hbad
          simp -implicitDefEqProofs only [sims.1, fx.1, keeps.1, tick_on, faddrK, nonnil, Nat.reduceEqDiff, lt3, d4, hbad, q2, rk4_23, hb9, hap, stL, w3]
          exact ⟨i + 1, by kernel_rfl, fin2, by omega⟩
end Go.Proofs.Ytjjenpdjmcmgbaa
