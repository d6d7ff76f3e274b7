/- The document's table: rules in a row; one is added, some are dropped, the best is found, masks are counted. No condition. -/
import Derived.Test.YtffhmbdpmpgddaaWs
import Derived.Test.YtffhmbdpmpgddaaWk
namespace Go.Proofs.Ytffhmbdpmpgddaa
open Go Ab
set_option linter.unusedSimpArgs false
set_option linter.unusedVariables false
set_option maxRecDepth 20000

structure RT where
  L : List (Int × Ru)
  last : Int
  q : Nat
def itC (x : Int × Ru) : List V := .int .i64 x.1 :: ruC x.2
def rV (n q : Nat) : V := match n with
  | 0 => .nils
  | k + 1 => .sl 26 q 0 (k + 1)
def rtC (R : RT) : List V := [rV R.L.length R.q, .int .i64 R.last]
def posW (w : Nat) (R : RT) : List Nat := w :: (match R.L with
  | [] => []
  | _ :: _ => [R.q])
structure RB (m : Mem) (w : Nat) (R : RT) : Prop where
  tp : m[w]? = some (.var 45 (rtC R))
  tq : R.L ≠ [] → m[R.q]? = some (.row 72 26 (R.L.map itC)) ∧ w ≠ R.q
theorem mem_posW {w : Nat} {R : RT} {k : Nat} : k ∈ posW w R ↔ k = w ∨ (R.L ≠ [] ∧ k = R.q) := by
  unfold posW
  cases R.L with
  | nil => simp
  | cons a l => simp
theorem RB.of {m m' : Mem} {w : Nat} {R : RT} (h : RB m w R) (e : ∀ k ∈ posW w R, m'[k]? = m[k]?) : RB m' w R :=
  ⟨by rw [e _ (mem_posW.2 (.inl rfl))]; exact h.tp, fun hn => ⟨by rw [e _ (mem_posW.2 (.inr ⟨hn, rfl⟩))]; exact (h.tq hn).1, (h.tq hn).2⟩⟩
theorem RB.lt {m : Mem} {w : Nat} {R : RT} (h : RB m w R) : ∀ k ∈ posW w R, k < m.length := fun k hk => by
  rcases mem_posW.1 hk with rfl | ⟨hn, rfl⟩
  · exact (List.getElem?_eq_some_iff.1 h.tp).1
  · exact (List.getElem?_eq_some_iff.1 (h.tq hn).1).1
theorem RB.app {m : Mem} {w : Nat} {R : RT} (h : RB m w R) (l : Mem) : RB (m ++ l) w R := h.of fun k hk => List.getElem?_append_left (h.lt k hk)
theorem rV_len (mm : Mem) (n q : Nat) : lenV Try.prog mm 43 (rV n q) = some (.int .i64 (n : Int)) := by cases n <;> rfl
theorem rV_pos {n q : Nat} (h : n ≠ 0) : rV n q = .sl 26 q 0 n := by
  cases n with
  | zero => exact absurd rfl h
  | succ k => rfl
theorem un43 : Try.prog.underlying 43 = some (.slice 72) := Try.underlying43
theorem zE72 : ((zeroE Try.prog 72).map fun x => (x.2.1, Nat.ble x.2.2 1000)) = some (26, true) := by kernel_rfl
theorem bs43 {r : Ru} (h : wfR r) (k : Int) (m : Mem) : bsliceV Try.prog 43 1 [(0, .agg (itC (k, r)))] m = some (.sl 26 m.length 0 1, m ++ [.row 72 26 [itC (k, r)]]) := by
  have h1 : zeroE Try.prog 72 = some (.int .i64 0 :: .int .i64 0 :: (cl .u64 22 (fun _ => 0) ++ [.nils, .int .u64 0]), 26, 224) := by kernel_rfl
  have hs : stys ([(0, V.agg (itC (k, r)))].map (·.2)) = true := by
    have : nfs [V.agg (itC (k, r))] = true := by simp only [nfs, nf, itC, nfs_ru h, Bool.and_self]
    simp [stys, this]
  have hl : (itC (k, r)).length = 26 := rfl
  unfold bsliceV
  simp only [un43, h1, frzQ_nf _ m hs]
  rfl
theorem b72 (k : Int) (r : Ru) : buildV Try.prog 72 [(0, .int .i64 k), (1, .agg (ruC r))] = some (.agg (itC (k, r))) := by kernel_rfl

set_option maxHeartbeats 2000000 in
theorem snd12n {m : Mem} {p : Nat} {r : Ru} (hr : U64 22 r.w) (hc : chk r.w = false) : Snd Try.prog 12 [.ptr p 0, .agg (ruC r)] m fun q => q = .ret (.tup [.int .i64 0, .int .i64 20]) (m ++ [.var 32 (ruC r)]) := by
  refine Snd_of_W fol rfl rfl (by kernel_rfl) (by kernel_rfl) ?_
  have pM : partK true 22 (ruC r) 1 = some (mv r.w) := rfl
  have a27 : Ans Try.prog 27 [mv r.w] (.int .i64 20) := by
    have := ans27 r.w hr
    rwa [hc] at this
  have hB : (m ++ [B.var 32 (ruC r)])[m.length]? = some (B.var 32 (ruC r)) := by simp
  have e0 : decide ((20 : Int) = 0) = false := rfl
  simp -implicitDefEqProofs only [sims.1, fx.1, keeps.1, tick_on, calleeK, extractV, oneV, faddrK, nonnil, b_shr, b_shl, fieldK, Nat.reduceAdd, Nat.reduceMul, Nat.reduceSub, Nat.reduceEqDiff, Nat.reduceLT, Nat.reduceLeDiff, Nat.reduceBEq, Nat.reduceBNe, reduceIte, Int.reduceEq, Int.reduceLT, Int.reduceLE, Int.reduceNe, Int.reduceToNat, hB, pM]
  refine callD_ans a27 en27 (by simp only [nfs, nf, mv, nfs_cl, Bool.and_self]) rfl ?_
  simp -implicitDefEqProofs only [sims.1, fx.1, keeps.1, tick_on, calleeK, extractV, oneV, faddrK, nonnil, b_shr, b_shl, fieldK, Nat.reduceAdd, Nat.reduceMul, Nat.reduceSub, Nat.reduceEqDiff, Nat.reduceLT, Nat.reduceLeDiff, Nat.reduceBEq, Nat.reduceBNe, reduceIte, Int.reduceEq, Int.reduceLT, Int.reduceLE, Int.reduceNe, Int.reduceToNat, e0]

set_option maxHeartbeats 8000000 in
theorem snd12 {m : Mem} {w : Nat} {R : RT} {r : Ru} (h : RB m w R) (hr : wfR r) (hc : chk r.w = true) (hroom : R.L.length < 1024) (hlast : 0 ≤ R.last ∧ R.last < 1000000) :
    Snd Try.prog 12 [.ptr w 0, .agg (ruC r)] m fun q => ∃ m' s, q = .ret (.tup [.int .i64 (R.last + 1), .int .i64 0]) m' ∧ RB m' w ⟨R.L ++ [(R.last + 1, r)], R.last + 1, s⟩ ∧ Keep m m' (posW w R) ∧ m.length ≤ s := by
  refine Snd_of_W fol rfl rfl (by kernel_rfl) (by kernel_rfl) ?_
  have pM : partK true 22 (ruC r) 1 = some (mv r.w) := rfl
  have a27 : Ans Try.prog 27 [mv r.w] (.int .i64 0) := by
    have := ans27 r.w hr.1
    rwa [hc] at this
  have hB : (m ++ [B.var 32 (ruC r)])[m.length]? = some (B.var 32 (ruC r)) := by simp
  have hlt := h.lt
  have h0 := h.app [B.var 32 (ruC r)]
  have hBn : m.length ∉ posW w R := fun e => Nat.lt_irrefl _ (hlt _ e)
  have hl0 : (m ++ [B.var 32 (ruC r)]).length = m.length + 1 := by simp
  have hk0 : ∀ k, k < m.length → (m ++ [B.var 32 (ruC r)])[k]? = m[k]? := fun k hk => List.getElem?_append_left hk
  simp -implicitDefEqProofs only [sims.1, fx.1, keeps.1, tick_on, calleeK, extractV, oneV, faddrK, nonnil, b_shr, b_shl, fieldK, Nat.reduceAdd, Nat.reduceMul, Nat.reduceSub, Nat.reduceEqDiff, Nat.reduceLT, Nat.reduceLeDiff, Nat.reduceBEq, Nat.reduceBNe, reduceIte, Int.reduceEq, Int.reduceLT, Int.reduceLE, Int.reduceNe, Int.reduceToNat]
  generalize m ++ [B.var 32 (ruC r)] = m0 at hB h0 hl0 hk0 ⊢
  generalize hbx : m.length = bx at hB hBn hl0 hk0 hlt ⊢
  simp -implicitDefEqProofs only [sims.1, fx.1, keeps.1, tick_on, calleeK, extractV, oneV, faddrK, nonnil, b_shr, b_shl, fieldK, Nat.reduceAdd, Nat.reduceMul, Nat.reduceSub, Nat.reduceEqDiff, Nat.reduceLT, Nat.reduceLeDiff, Nat.reduceBEq, Nat.reduceBNe, reduceIte, Int.reduceEq, Int.reduceLT, Int.reduceLE, Int.reduceNe, Int.reduceToNat, hB, pM]
  refine callD_ans a27 en27 (by simp only [nfs, nf, mv, nfs_cl, Bool.and_self]) rfl ?_
  have e0 : decide ((0 : Int) = 0) = true := rfl
  have tc0 : ∀ R, (rtC R)[0]? = some (rV R.L.length R.q) := fun _ => rfl
  have tc1 : ∀ R, (rtC R)[1]? = some (.int .i64 R.last) := fun _ => rfl
  have tl : ∀ R, (rtC R).length = 2 := fun _ => rfl
  have ts : ∀ R (l : Int), (rtC R).set 1 (.int .i64 l) = rtC { R with last := l } := fun _ _ => rfl
  have hrm : decide ((1024 : Int) ≤ (R.L.length : Int)) = false := by simp; omega
  have hw : IntKind.i64.wrap (R.last + 1) = R.last + 1 := by
    simp [IntKind.wrap, IntKind.bits, IntKind.signed]
    omega
  simp -implicitDefEqProofs only [sims.1, fx.1, keeps.1, tick_on, calleeK, extractV, oneV, faddrK, nonnil, b_shr, b_shl, fieldK, Nat.reduceAdd, Nat.reduceMul, Nat.reduceSub, Nat.reduceEqDiff, Nat.reduceLT, Nat.reduceLeDiff, Nat.reduceBEq, Nat.reduceBNe, reduceIte, Int.reduceEq, Int.reduceLT, Int.reduceLE, Int.reduceNe, Int.reduceToNat, e0, h0.tp, tc0, tc1, rV_len, hrm, hw, tl, ts]
  have hwb : w ≠ bx := fun e => hBn (by rw [← e]; exact mem_posW.2 (.inl rfl))
  have hwl : w < bx := hlt w (mem_posW.2 (.inl rfl))
  have hB1 : (List.set m0 w (B.var 45 (rtC { R with last := R.last + 1 })))[bx]? = some (B.var 32 (ruC r)) := by rw [List.getElem?_set_ne hwb]; exact hB
  have hl1 : (List.set m0 w (B.var 45 (rtC { R with last := R.last + 1 }))).length = bx + 1 := by rw [List.length_set]; exact hl0
  have hp1 : (List.set m0 w (B.var 45 (rtC { R with last := R.last + 1 })))[w]? = some (B.var 45 (rtC { R with last := R.last + 1 })) := List.getElem?_set_self (by omega)
  have hk1 : ∀ k, k ≠ w → (List.set m0 w (B.var 45 (rtC { R with last := R.last + 1 })))[k]? = m0[k]? := fun k hk => List.getElem?_set_ne (Ne.symm hk)
  generalize List.set m0 w (B.var 45 (rtC { R with last := R.last + 1 })) = m1 at hB1 hl1 hp1 hk1 ⊢
  refine w_noisy ?_
  have pR : partK true 25 (ruC r) 0 = some (.agg (ruC r)) := rfl
  obtain ⟨m5, happ, hl5, hq5, hk5⟩ := app_any (t := 43) (e := 72) (s := 26) (by kernel_rfl) zE72 (by kernel_rfl) (mm := m1) (q := R.q) (l := R.L.map itC) (v := rV R.L.length R.q) (itC (R.last + 1, r)) (by
      cases e : R.L with
      | nil => exact .inl ⟨rfl, rfl⟩
      | cons a l =>
        have hq := (h0.tq (by rw [e]; simp))
        refine .inr ⟨by simp, by rw [List.length_map]; rfl, ?_⟩
        rw [hk1 _ (Ne.symm hq.2), ← e]
        exact hq.1) (by rw [List.length_map]; omega)
  rw [List.length_map] at happ
  have hp5 : m5[w]? = some (B.var 45 (rtC { R with last := R.last + 1 })) := by
    rw [hk5 w (by omega) ?_, hp1]
    cases e : R.L with
    | nil => exact .inr rfl
    | cons a l => exact .inl (h0.tq (by rw [e]; simp)).2
  have hst5 : ∀ Q n : Nat, storeK 1 m5 (.ptr w 0) (.sl 26 Q 0 n) = some (m5.set w (.var 45 [.sl 26 Q 0 n, .int .i64 (R.last + 1)])) := fun Q n => by
    rw [storeK_one rfl, hp5]
    rfl
  have hrv : ∀ n ∈ nms (rV R.L.length R.q), n < m1.length := fun n hn => by
    cases e : R.L with
    | nil => rw [e] at hn; simp [rV, nms] at hn
    | cons a l =>
      rw [e] at hn
      simp [rV, nms] at hn
      have := (List.getElem?_eq_some_iff.1 (h0.tq (by rw [e]; simp)).1).1
      omega
  have bsr := bs43 hr (R.last + 1)
  have hnf : (nfs [V.agg (itC (R.last + 1, r))] || [V.agg (itC (R.last + 1, r))].all sty) = true := by
    have : nfs [V.agg (itC (R.last + 1, r))] = true := by simp only [nfs, nf, itC, nfs_ru hr, Bool.and_self]
    rw [this]; rfl
  simp -implicitDefEqProofs only [sims.1, fx.1, keeps.1, tick_on, calleeK, extractV, oneV, faddrK, nonnil, b_shr, b_shl, fieldK, Nat.reduceAdd, Nat.reduceMul, Nat.reduceSub, Nat.reduceEqDiff, Nat.reduceLT, Nat.reduceLeDiff, Nat.reduceBEq, Nat.reduceBNe, reduceIte, Int.reduceEq, Int.reduceLT, Int.reduceLE, Int.reduceNe, Int.reduceToNat, hp1, hB1, tc0, tc1, pR, b72, bsr, happ, hst5]
  iterate 8
    first
    | (refine orderP_of (accB_lt (by intro n hn; first | (simp [nms, mnm] at hn; done) | (simp [nms, mnm] at hn ⊢; omega) | (simp [nms, mnm] at hn; omega)) (by kernel_rfl)) ?_
       simp -implicitDefEqProofs only [sims.1, fx.1, keeps.1, tick_on, calleeK, extractV, oneV, faddrK, nonnil, b_shr, b_shl, fieldK, Nat.reduceAdd, Nat.reduceMul, Nat.reduceSub, Nat.reduceEqDiff, Nat.reduceLT, Nat.reduceLeDiff, Nat.reduceBEq, Nat.reduceBNe, reduceIte, Int.reduceEq, Int.reduceLT, Int.reduceLE, Int.reduceNe, Int.reduceToNat, hp1, hB1, tc0, tc1, pR, b72, bsr, happ, hst5])
    | (refine orderP_of (and_of hnf (accB_lt (by intro n hn; first | (simp [nms, mnm] at hn; done) | (simp [nms, mnm] at hn ⊢; omega) | (simp [nms, mnm] at hn; omega)) (by kernel_rfl))) ?_
       simp -implicitDefEqProofs only [sims.1, fx.1, keeps.1, tick_on, calleeK, extractV, oneV, faddrK, nonnil, b_shr, b_shl, fieldK, Nat.reduceAdd, Nat.reduceMul, Nat.reduceSub, Nat.reduceEqDiff, Nat.reduceLT, Nat.reduceLeDiff, Nat.reduceBEq, Nat.reduceBNe, reduceIte, Int.reduceEq, Int.reduceLT, Int.reduceLE, Int.reduceNe, Int.reduceToNat, hp1, hB1, tc0, tc1, pR, b72, bsr, happ, hst5])
    | (refine orderP_of (accB_lt (by
         intro n hn
         rcases List.mem_append.1 hn with hn | hn
         · simp [nms] at hn ⊢; omega
         · have := hrv n hn; simp; omega) (by kernel_rfl)) ?_
       simp -implicitDefEqProofs only [sims.1, fx.1, keeps.1, tick_on, calleeK, extractV, oneV, faddrK, nonnil, b_shr, b_shl, fieldK, Nat.reduceAdd, Nat.reduceMul, Nat.reduceSub, Nat.reduceEqDiff, Nat.reduceLT, Nat.reduceLeDiff, Nat.reduceBEq, Nat.reduceBNe, reduceIte, Int.reduceEq, Int.reduceLT, Int.reduceLE, Int.reduceNe, Int.reduceToNat, hp1, hB1, tc0, tc1, pR, b72, bsr, happ, hst5])
    | skip
  have hwl5 : w < m5.length := by omega
  have hp6 : ∀ b, (m5.set w b)[w]? = some b := fun b => List.getElem?_set_self hwl5
  have l1 : ∀ a b : V, [a, b][1]? = some b := fun _ _ => rfl
  simp -implicitDefEqProofs only [sims.1, fx.1, keeps.1, tick_on, calleeK, extractV, oneV, faddrK, nonnil, b_shr, b_shl, fieldK, Nat.reduceAdd, Nat.reduceMul, Nat.reduceSub, Nat.reduceEqDiff, Nat.reduceLT, Nat.reduceLeDiff, Nat.reduceBEq, Nat.reduceBNe, reduceIte, Int.reduceEq, Int.reduceLT, Int.reduceLE, Int.reduceNe, Int.reduceToNat, hp6, l1]
  refine ⟨_, m1.length + 1, rfl, ⟨by rw [hp6]; simp [rtC, rV], fun _ => ⟨?_, by simp only; omega⟩⟩, ⟨by rw [List.length_set]; omega, fun k hk hn => ?_⟩, by omega⟩
  · rw [List.getElem?_set_ne (by simp only; omega), hq5]
    simp
  · have hkw : k ≠ w := fun e => hn (mem_posW.2 (.inl e))
    rw [List.getElem?_set_ne (Ne.symm hkw), hk5 k (by omega) ?_, hk1 k hkw, hk0 k (by omega)]
    cases e : R.L with
    | nil => exact .inr rfl
    | cons a l => exact .inl fun e2 => hn (mem_posW.2 (.inr ⟨by rw [e]; simp, e2⟩))

theorem snd16 {m : Mem} {p : Nat} {T : Tbl} (h : TB m p T) : Snd Try.prog 16 [.ptr p 0] m fun q => q = .ret (.int .i64 (T.rows.length : Int)) m := by
  refine Snd_of_W fol rfl rfl (by kernel_rfl) (by kernel_rfl) ?_
  have pe26 : ∀ (n o : Nat) (env : Env), binV Try.prog .eql 26 (.ptr n o) (evO env (.const (.pointer none))) = some (.bool false) := fun _ _ _ => rfl
  have tc0 : ∀ T, (tbC T)[0]? = some (rowsV T) := fun _ => rfl
  have lv := h.lenR m
  simp -implicitDefEqProofs only [sims.1, fx.1, keeps.1, tick_on, calleeK, extractV, oneV, faddrK, nonnil, b_shr, b_shl, fieldK, Nat.reduceAdd, Nat.reduceMul, Nat.reduceSub, Nat.reduceEqDiff, Nat.reduceLT, Nat.reduceLeDiff, Nat.reduceBEq, Nat.reduceBNe, reduceIte, Int.reduceEq, Int.reduceLT, Int.reduceLE, Int.reduceNe, Int.reduceToNat, pe26, h.tp, tc0, lv]

theorem ep_id {m : Mem} {w : Nat} {R : RT} (h : RB m w R) {j : Nat} (hj : j < R.L.length) (agg : Bool) (s o : Nat) : loadK agg s m (.ep 26 R.q j o) = partK agg s (itC R.L[j]) o := by
  have hn : R.L ≠ [] := fun e => by rw [e] at hj; exact absurd hj (Nat.not_lt_zero _)
  rw [loadK_ep, (h.tq hn).1]
  simp only [Option.bind_some, if_true, List.getElem?_map, List.getElem?_eq_getElem hj, Option.map_some]

def flt (id : Int) (L : List (Int × Ru)) : List (Int × Ru) := L.filter fun x => !decide (x.1 = id)
set_option maxHeartbeats 8000000 in
theorem snd14 {m : Mem} {w : Nat} {R : RT} {id : Int} (h : RB m w R) (hwf : ∀ x ∈ R.L, wfR x.2) (hl : R.L.length < 100000) :
    Snd Try.prog 14 [.ptr w 0, .int .i64 id] m fun q => ∃ m' s, q = .ret (.bool (decide ((flt id R.L).length < R.L.length))) m' ∧ RB m' w ⟨flt id R.L, R.last, s⟩ ∧ Keep m m' (posW w R) ∧ m.length ≤ s := by
  refine Snd_of_W fol rfl rfl (by kernel_rfl) (by kernel_rfl) ?_
  have tc0 : ∀ R, (rtC R)[0]? = some (rV R.L.length R.q) := fun _ => rfl
  have evn : ∀ env, evO env (.const (.slice none 0 0)) = .nils := fun _ => rfl
  simp -implicitDefEqProofs only [sims.1, fx.1, keeps.1, tick_on, calleeK, extractV, oneV, faddrK, nonnil, b_shr, b_shl, fieldK, Nat.reduceAdd, Nat.reduceMul, Nat.reduceSub, Nat.reduceEqDiff, Nat.reduceLT, Nat.reduceLeDiff, Nat.reduceBEq, Nat.reduceBNe, reduceIte, Int.reduceEq, Int.reduceLT, Int.reduceLE, Int.reduceNe, Int.reduceToNat, evn]
  refine W_loopM (fun x : Nat × Nat => [(1, .int .i64 id), (6, .int .i64 (x.1 : Int)), (0, .ptr w 0), (5, rV (flt id (R.L.take x.1)).length x.2)])
    (fun x mm => x.1 ≤ R.L.length ∧ m.length ≤ mm.length ∧ (∀ k, k < m.length → mm[k]? = m[k]?) ∧ m.length ≤ x.2 ∧ (flt id (R.L.take x.1) ≠ [] → mm[x.2]? = some (.row 72 26 ((flt id (R.L.take x.1)).map itC)))) (fun x => R.L.length - x.1) (0, m.length) (by kernel_rfl) ⟨Nat.zero_le _, Nat.le_refl _, fun _ _ => rfl, Nat.le_refl _, fun hh => absurd rfl hh⟩ ?_
  rintro ⟨j, s⟩ mm ⟨hj, hle, hk, hs, hrow⟩
  simp only at hj hle hk hs hrow
  have hR : RB mm w R := h.of fun k hk2 => hk k (h.lt k hk2)
  have hwl : w < mm.length := hR.lt _ (mem_posW.2 (.inl rfl))
  rcases Nat.lt_or_ge j R.L.length with h1 | h1
  · have d1 : decide (j < R.L.length) = true := by simpa using h1
    have c7 := wrap_i64s j (by omega)
    have i1 : ∀ {kk : IntKind}, iaddrS 26 (rV R.L.length R.q) (.int kk (j : Int)) = some (.ep 26 R.q j 0) := fun {_} => by rw [rV_pos (by omega), iaddrS_sl h1, Nat.zero_add]
    have g0 : (itC R.L[j])[0]? = some (.int .i64 R.L[j].1) := rfl
    have gA : partK true 26 (itC R.L[j]) 0 = some (.agg (itC R.L[j])) := rfl
    have hid := fun agg s o => ep_id hR h1 agg s o
    have htk : R.L.take (j + 1) = R.L.take j ++ [R.L[j]] := by rw [List.take_append_getElem h1]
    simp -implicitDefEqProofs only [sims.1, fx.1, keeps.1, tick_on, calleeK, extractV, oneV, faddrK, nonnil, b_shr, b_shl, fieldK, Nat.reduceAdd, Nat.reduceMul, Nat.reduceSub, Nat.reduceEqDiff, Nat.reduceLT, Nat.reduceLeDiff, Nat.reduceBEq, Nat.reduceBNe, reduceIte, Int.reduceEq, Int.reduceLT, Int.reduceLE, Int.reduceNe, Int.reduceToNat, hR.tp, tc0, rV_len, ltNat, d1, i1, hid, g0]
    cases e : decide (R.L[j].1 = id)
    · have hfl : flt id (R.L.take (j + 1)) = flt id (R.L.take j) ++ [R.L[j]] := by
        unfold flt
        rw [htk, List.filter_append]
        simp [e]
      have bsr := bs43 (hwf _ (List.getElem_mem h1)) R.L[j].1
      rw [show (R.L[j].1, R.L[j].2) = R.L[j] from rfl] at bsr
      have hfll : (flt id (R.L.take j)).length ≤ R.L.length := by
        unfold flt
        exact Nat.le_trans (List.length_filter_le _ _) (by rw [List.length_take]; omega)
      obtain ⟨m5, happ, hl5, hq5, hk5⟩ := app_any (t := 43) (e := 72) (s := 26) (by kernel_rfl) zE72 (by kernel_rfl) (mm := mm) (q := s) (l := (flt id (R.L.take j)).map itC) (v := rV (flt id (R.L.take j)).length s) (itC R.L[j]) (by
        cases e2 : flt id (R.L.take j) with
        | nil => exact .inl ⟨rfl, rfl⟩
        | cons a l =>
          refine .inr ⟨by simp, by rw [List.length_map]; rfl, ?_⟩
          rw [← e2]
          exact hrow (by rw [e2]; simp)) (by rw [List.length_map]; omega)
      rw [List.length_map] at happ
      simp -implicitDefEqProofs only [sims.1, fx.1, keeps.1, tick_on, calleeK, extractV, oneV, faddrK, nonnil, b_shr, b_shl, fieldK, Nat.reduceAdd, Nat.reduceMul, Nat.reduceSub, Nat.reduceEqDiff, Nat.reduceLT, Nat.reduceLeDiff, Nat.reduceBEq, Nat.reduceBNe, reduceIte, Int.reduceEq, Int.reduceLT, Int.reduceLE, Int.reduceNe, Int.reduceToNat, e, hR.tp, tc0, rV_len, i1, hid, gA, bsr, happ, c7]
      refine ⟨(j + 1, mm.length + 1), ?_, ⟨h1, by omega, fun k hk2 => ?_, by simp only; omega, fun _ => ?_⟩, by simp only; omega⟩
      · simp only [hfl, List.length_append, List.length_cons, List.length_nil]
        rfl
      · rw [hk5 k (by omega) ?_, hk k hk2]
        exact .inl (by omega)
      · simp only
        rw [hq5, hfl]
        simp
    · have hfl : flt id (R.L.take (j + 1)) = flt id (R.L.take j) := by
        unfold flt
        rw [htk, List.filter_append]
        simp [e]
      simp -implicitDefEqProofs only [sims.1, fx.1, keeps.1, tick_on, calleeK, extractV, oneV, faddrK, nonnil, b_shr, b_shl, fieldK, Nat.reduceAdd, Nat.reduceMul, Nat.reduceSub, Nat.reduceEqDiff, Nat.reduceLT, Nat.reduceLeDiff, Nat.reduceBEq, Nat.reduceBNe, reduceIte, Int.reduceEq, Int.reduceLT, Int.reduceLE, Int.reduceNe, Int.reduceToNat, e, c7]
      refine ⟨(j + 1, s), ?_, ⟨h1, hle, hk, hs, ?_⟩, by simp only; omega⟩
      · simp only [hfl]
        rfl
      · simp only
        rw [hfl]
        exact hrow
  · have d1 : decide (j < R.L.length) = false := by simpa using h1
    have htk : R.L.take j = R.L := List.take_of_length_le h1
    rw [htk] at hrow
    have hst : storeK 1 mm (.ptr w 0) (rV (flt id R.L).length s) = some (mm.set w (.var 45 (rtC ⟨flt id R.L, R.last, s⟩))) := by
      have ho : oneV (rV (flt id R.L).length s) = true := by cases (flt id R.L).length <;> rfl
      rw [storeK_one ho, hR.tp]
      rfl
    simp -implicitDefEqProofs only [sims.1, fx.1, keeps.1, tick_on, calleeK, extractV, oneV, faddrK, nonnil, b_shr, b_shl, fieldK, Nat.reduceAdd, Nat.reduceMul, Nat.reduceSub, Nat.reduceEqDiff, Nat.reduceLT, Nat.reduceLeDiff, Nat.reduceBEq, Nat.reduceBNe, reduceIte, Int.reduceEq, Int.reduceLT, Int.reduceLE, Int.reduceNe, Int.reduceToNat, hR.tp, tc0, rV_len, ltNat, d1, htk, hst]
    refine ⟨_, s, rfl, ⟨List.getElem?_set_self hwl, fun hn => ⟨?_, by simp only; have := h.lt _ (mem_posW.2 (.inl rfl)); omega⟩⟩, ⟨by rw [List.length_set]; exact hle, fun k hk2 hn => ?_⟩, hs⟩
    · have := h.lt _ (mem_posW.2 (.inl rfl))
      rw [List.getElem?_set_ne (by simp only; omega)]
      exact hrow hn
    · rw [List.getElem?_set_ne (fun e => hn (mem_posW.2 (.inl e.symm)))]
      exact hk k hk2

/-- Which of the first rules that hit is the best. -/
def fw (h : Nat → Nat) (L : List (Int × Ru)) : Nat → Option Nat
  | 0 => none
  | j + 1 => match L[j]? with
    | some x => bif hits x.2.w h && (match fw h L j with
        | none => true
        | some b => match L[b]? with
          | some y => decide (y.2.rank < x.2.rank)
          | none => true) then some j else fw h L j
    | none => fw h L j
theorem fw_spec {h : Nat → Nat} {L : List (Int × Ru)} : ∀ {j : Nat}, j ≤ L.length → match fw h L j with
    | none => ∀ i x, i < j → L[i]? = some x → hits x.2.w h = false
    | some b => b < j ∧ ∃ y, L[b]? = some y ∧ hits y.2.w h = true ∧ ∀ i x, i < j → L[i]? = some x → hits x.2.w h = true → x.2.rank ≤ y.2.rank ∧ (x.2.rank = y.2.rank → b ≤ i)
  | 0, _ => by simp [fw]
  | j + 1, hj => by
    have ih := fw_spec (h := h) (L := L) (j := j) (by omega)
    have hx : L[j]? = some L[j] := List.getElem?_eq_getElem (by omega)
    simp only [fw, hx]
    cases hh : hits L[j].2.w h
    · simp only [Bool.false_and, cond_false]
      cases e : fw h L j with
      | none =>
        rw [e] at ih
        simp only at ih ⊢
        intro i x hi hix
        rcases Nat.lt_or_ge i j with h1 | h1
        · exact ih i x h1 hix
        · obtain rfl : i = j := by omega
          rw [hx] at hix; cases hix; exact hh
      | some b =>
        rw [e] at ih
        simp only at ih ⊢
        obtain ⟨h1, y, h2, h3, h4⟩ := ih
        refine ⟨by omega, y, h2, h3, fun i x hi hix hhx => ?_⟩
        rcases Nat.lt_or_ge i j with h5 | h5
        · exact h4 i x h5 hix hhx
        · obtain rfl : i = j := by omega
          rw [hx] at hix; cases hix; rw [hh] at hhx; cases hhx
    · simp only [Bool.true_and]
      cases e : fw h L j with
      | none =>
        rw [e] at ih
        simp only [cond_true] at ih ⊢
        refine ⟨Nat.lt_succ_self _, L[j], hx, hh, fun i x hi hix hhx => ?_⟩
        rcases Nat.lt_or_ge i j with h5 | h5
        · rw [ih i x h5 hix] at hhx; cases hhx
        · obtain rfl : i = j := by omega
          rw [hx] at hix; cases hix; exact ⟨Int.le_refl _, fun _ => Nat.le_refl _⟩
      | some b =>
        rw [e] at ih
        simp only at ih ⊢
        obtain ⟨h1, y, h2, h3, h4⟩ := ih
        rw [h2]
        simp only
        cases ed : decide (y.2.rank < L[j].2.rank)
        · simp only [cond_false]
          simp only [decide_eq_false_iff_not] at ed
          refine ⟨by omega, y, h2, h3, fun i x hi hix hhx => ?_⟩
          rcases Nat.lt_or_ge i j with h5 | h5
          · exact h4 i x h5 hix hhx
          · obtain rfl : i = j := by omega
            rw [hx] at hix; cases hix
            exact ⟨by omega, fun _ => by omega⟩
        · simp only [cond_true]
          simp only [decide_eq_true_eq] at ed
          refine ⟨Nat.lt_succ_self _, L[j], hx, hh, fun i x hi hix hhx => ?_⟩
          rcases Nat.lt_or_ge i j with h5 | h5
          · have := (h4 i x h5 hix hhx).1
            exact ⟨by omega, fun _ => by omega⟩
          · obtain rfl : i = j := by omega
            rw [hx] at hix; cases hix; exact ⟨Int.le_refl _, fun _ => Nat.le_refl _⟩
def bI : Option Nat → Int
  | none => -1
  | some b => (b : Int)
theorem bI_some (b : Nat) : bI (some b) = (b : Int) := rfl
/-- What is found. -/
def fwA (h : Nat → Nat) (L : List (Int × Ru)) : Int × Bool := match fw h L L.length with
  | none => (0, false)
  | some b => ((L[b]?.map (·.1)).getD 0, true)
set_option maxHeartbeats 8000000 in
theorem snd15 {m : Mem} {w : Nat} {R : RT} {h : Nat → Nat} (hR : RB m w R) (hwf : ∀ x ∈ R.L, U64 22 x.2.w) (hh : U64 11 h) (hl : R.L.length < 100000) :
    Snd Try.prog 15 [.ptr w 0, .agg (hC h)] m fun q => q = .ret (.tup [.int .i64 (fwA h R.L).1, .bool (fwA h R.L).2]) (m ++ [.var 25 (hC h)]) := by
  refine Snd_of_W fol rfl rfl (by kernel_rfl) (by kernel_rfl) ?_
  have tc0 : ∀ R, (rtC R)[0]? = some (rV R.L.length R.q) := fun _ => rfl
  have hR1 := hR.app [B.var 25 (hC h)]
  have hB : (m ++ [B.var 25 (hC h)])[m.length]? = some (.var 25 (hC h)) := by simp
  simp -implicitDefEqProofs only [sims.1, fx.1, keeps.1, tick_on, calleeK, extractV, oneV, faddrK, nonnil, b_shr, b_shl, fieldK, Nat.reduceAdd, Nat.reduceMul, Nat.reduceSub, Nat.reduceEqDiff, Nat.reduceLT, Nat.reduceLeDiff, Nat.reduceBEq, Nat.reduceBNe, reduceIte, Int.reduceEq, Int.reduceLT, Int.reduceLE, Int.reduceNe, Int.reduceToNat]
  refine W_loopM (fun j : Nat => [(3, .ptr m.length 0), (7, .int .i64 (j : Int)), (0, .ptr w 0), (6, .int .i64 (bI (fw h R.L j)))])
    (fun j mm => j ≤ R.L.length ∧ mm = m ++ [.var 25 (hC h)]) (fun j => R.L.length - j) 0 (by kernel_rfl) ⟨Nat.zero_le _, rfl⟩ ?_
  rintro j mm ⟨hj, rfl⟩
  rcases Nat.lt_or_ge j R.L.length with h1 | h1
  · have d1 : decide (j < R.L.length) = true := by simpa using h1
    have c7 := wrap_i64s j (by omega)
    have i1 : ∀ {kk : IntKind} (j : Nat), j < R.L.length → iaddrS 26 (rV R.L.length R.q) (.int kk (j : Int)) = some (.ep 26 R.q j 0) := fun {_} j h1 => by rw [rV_pos (by omega), iaddrS_sl h1, Nat.zero_add]
    have i1j : ∀ {kk : IntKind}, iaddrS 26 (rV R.L.length R.q) (.int kk (j : Int)) = some (.ep 26 R.q j 0) := fun {_} => i1 j h1
    have hid := fun agg s o => ep_id hR1 h1 agg s o
    have gM : partK true 22 (itC R.L[j]) 2 = some (mv R.L[j].2.w) := rfl
    have gR : (itC R.L[j])[1]? = some (.int .i64 R.L[j].2.rank) := rfl
    have pH : partK true 11 (hC h) 0 = some (hv h) := rfl
    have a32 := ans32 R.L[j].2.w h (hwf _ (List.getElem_mem h1)) hh
    have n32 : nfs [mv R.L[j].2.w, hv h] = true := nfs_mh _ _
    have hstep : fw h R.L (j + 1) = bif hits R.L[j].2.w h && (match fw h R.L j with
        | none => true
        | some b => match R.L[b]? with
          | some y => decide (y.2.rank < R.L[j].2.rank)
          | none => true) then some j else fw h R.L j := by
      simp only [fw, List.getElem?_eq_getElem h1]
    simp -implicitDefEqProofs only [sims.1, fx.1, keeps.1, tick_on, calleeK, extractV, oneV, faddrK, nonnil, b_shr, b_shl, fieldK, Nat.reduceAdd, Nat.reduceMul, Nat.reduceSub, Nat.reduceEqDiff, Nat.reduceLT, Nat.reduceLeDiff, Nat.reduceBEq, Nat.reduceBNe, reduceIte, Int.reduceEq, Int.reduceLT, Int.reduceLE, Int.reduceNe, Int.reduceToNat, hR1.tp, tc0, rV_len, ltNat, d1]
    refine w_quiet ?_
    simp -implicitDefEqProofs only [sims.1, fx.1, keeps.1, tick_on, calleeK, extractV, oneV, faddrK, nonnil, b_shr, b_shl, fieldK, Nat.reduceAdd, Nat.reduceMul, Nat.reduceSub, Nat.reduceEqDiff, Nat.reduceLT, Nat.reduceLeDiff, Nat.reduceBEq, Nat.reduceBNe, reduceIte, Int.reduceEq, Int.reduceLT, Int.reduceLE, Int.reduceNe, Int.reduceToNat, hR1.tp, tc0, i1j, hid, gM, hB, pH]
    refine callQ_ans a32 en32 n32 rfl ?_
    cases hit : hits R.L[j].2.w h
    · rw [hit, Bool.false_and, cond_false] at hstep
      simp -implicitDefEqProofs only [sims.1, fx.1, keeps.1, tick_on, calleeK, extractV, oneV, faddrK, nonnil, b_shr, b_shl, fieldK, Nat.reduceAdd, Nat.reduceMul, Nat.reduceSub, Nat.reduceEqDiff, Nat.reduceLT, Nat.reduceLeDiff, Nat.reduceBEq, Nat.reduceBNe, reduceIte, Int.reduceEq, Int.reduceLT, Int.reduceLE, Int.reduceNe, Int.reduceToNat, c7]
      exact ⟨j + 1, by rw [hstep]; kernel_rfl, ⟨h1, by trivial⟩, by omega⟩
    · rw [hit, Bool.true_and] at hstep
      cases eb : fw h R.L j with
      | none =>
        rw [eb] at hstep
        simp only [cond_true] at hstep
        have d2 : decide (bI none < 0) = true := rfl
        simp -implicitDefEqProofs only [sims.1, fx.1, keeps.1, tick_on, calleeK, extractV, oneV, faddrK, nonnil, b_shr, b_shl, fieldK, Nat.reduceAdd, Nat.reduceMul, Nat.reduceSub, Nat.reduceEqDiff, Nat.reduceLT, Nat.reduceLeDiff, Nat.reduceBEq, Nat.reduceBNe, reduceIte, Int.reduceEq, Int.reduceLT, Int.reduceLE, Int.reduceNe, Int.reduceToNat, d2, c7]
        exact ⟨j + 1, by rw [hstep]; kernel_rfl, ⟨h1, by trivial⟩, by omega⟩
      | some b =>
        have hsp := fw_spec (h := h) (L := R.L) (j := j) (by omega)
        rw [eb] at hsp hstep
        simp only at hsp hstep
        obtain ⟨hb1, y, hb2, _⟩ := hsp
        rw [hb2] at hstep
        simp only at hstep
        have hbl : b < R.L.length := by omega
        have hyb : y = R.L[b] := by rw [List.getElem?_eq_getElem hbl] at hb2; exact (Option.some.inj hb2).symm
        have d2 : decide (bI (some b) < 0) = false := decide_eq_false (by rw [bI_some]; omega)
        have i2 : ∀ {kk : IntKind}, iaddrS 26 (rV R.L.length R.q) (.int kk (bI (some b))) = some (.ep 26 R.q b 0) := fun {_} => i1 b hbl
        have hid2 := fun agg s o => ep_id hR1 hbl agg s o
        have gR2 : (itC R.L[b])[1]? = some (.int .i64 R.L[b].2.rank) := rfl
        cases er : decide (y.2.rank < R.L[j].2.rank)
        · rw [er, cond_false] at hstep
          rw [hyb] at er
          simp -implicitDefEqProofs only [sims.1, fx.1, keeps.1, tick_on, calleeK, extractV, oneV, faddrK, nonnil, b_shr, b_shl, fieldK, Nat.reduceAdd, Nat.reduceMul, Nat.reduceSub, Nat.reduceEqDiff, Nat.reduceLT, Nat.reduceLeDiff, Nat.reduceBEq, Nat.reduceBNe, reduceIte, Int.reduceEq, Int.reduceLT, Int.reduceLE, Int.reduceNe, Int.reduceToNat, d2, hR1.tp, tc0, i1j, i2, hid, hid2, gR, gR2, er, c7]
          exact ⟨j + 1, by rw [hstep]; kernel_rfl, ⟨h1, by trivial⟩, by omega⟩
        · rw [er, cond_true] at hstep
          rw [hyb] at er
          simp -implicitDefEqProofs only [sims.1, fx.1, keeps.1, tick_on, calleeK, extractV, oneV, faddrK, nonnil, b_shr, b_shl, fieldK, Nat.reduceAdd, Nat.reduceMul, Nat.reduceSub, Nat.reduceEqDiff, Nat.reduceLT, Nat.reduceLeDiff, Nat.reduceBEq, Nat.reduceBNe, reduceIte, Int.reduceEq, Int.reduceLT, Int.reduceLE, Int.reduceNe, Int.reduceToNat, d2, hR1.tp, tc0, i1j, i2, hid, hid2, gR, gR2, er, c7]
          exact ⟨j + 1, by rw [hstep]; kernel_rfl, ⟨h1, by trivial⟩, by omega⟩
  · have d1 : decide (j < R.L.length) = false := by simpa using h1
    obtain rfl : j = R.L.length := by omega
    simp -implicitDefEqProofs only [sims.1, fx.1, keeps.1, tick_on, calleeK, extractV, oneV, faddrK, nonnil, b_shr, b_shl, fieldK, Nat.reduceAdd, Nat.reduceMul, Nat.reduceSub, Nat.reduceEqDiff, Nat.reduceLT, Nat.reduceLeDiff, Nat.reduceBEq, Nat.reduceBNe, reduceIte, Int.reduceEq, Int.reduceLT, Int.reduceLE, Int.reduceNe, Int.reduceToNat, hR1.tp, tc0, rV_len, ltNat, d1]
    cases eb : fw h R.L R.L.length with
    | none =>
      have d2 : decide (bI none < 0) = true := rfl
      have hA : fwA h R.L = (0, false) := by unfold fwA; rw [eb]
      simp -implicitDefEqProofs only [sims.1, fx.1, keeps.1, tick_on, calleeK, extractV, oneV, faddrK, nonnil, b_shr, b_shl, fieldK, Nat.reduceAdd, Nat.reduceMul, Nat.reduceSub, Nat.reduceEqDiff, Nat.reduceLT, Nat.reduceLeDiff, Nat.reduceBEq, Nat.reduceBNe, reduceIte, Int.reduceEq, Int.reduceLT, Int.reduceLE, Int.reduceNe, Int.reduceToNat, d2, hA]
    | some b =>
      have hsp := fw_spec (h := h) (L := R.L) (j := R.L.length) (Nat.le_refl _)
      rw [eb] at hsp
      simp only at hsp
      obtain ⟨hb1, y, hb2, _⟩ := hsp
      have d2 : decide (bI (some b) < 0) = false := decide_eq_false (by rw [bI_some]; omega)
      have i2 : ∀ {kk : IntKind}, iaddrS 26 (rV R.L.length R.q) (.int kk (bI (some b))) = some (.ep 26 R.q b 0) := fun {_} => by
        show iaddrS 26 _ (.int _ (b : Int)) = _
        rw [rV_pos (by omega), iaddrS_sl hb1, Nat.zero_add]
      have hid2 := fun agg s o => ep_id hR1 hb1 agg s o
      have gI : (itC R.L[b])[0]? = some (.int .i64 R.L[b].1) := rfl
      have hA : fwA h R.L = (R.L[b].1, true) := by unfold fwA; rw [eb]; simp [List.getElem?_eq_getElem hb1]
      simp -implicitDefEqProofs only [sims.1, fx.1, keeps.1, tick_on, calleeK, extractV, oneV, faddrK, nonnil, b_shr, b_shl, fieldK, Nat.reduceAdd, Nat.reduceMul, Nat.reduceSub, Nat.reduceEqDiff, Nat.reduceLT, Nat.reduceLeDiff, Nat.reduceBEq, Nat.reduceBNe, reduceIte, Int.reduceEq, Int.reduceLT, Int.reduceLE, Int.reduceNe, Int.reduceToNat, d2, hR1.tp, tc0, i2, hid2, gI, hA]

/-! ### Rows -/
def msk (L : List (Int × Ru)) : List (Nat → Nat) := L.map fun q => ruM q.2
def nR (L : List (Int × Ru)) (i : Nat) : Nat := fsts ((msk L).take i).reverse
def fJ (L : List (Int × Ru)) (a : Nat → Nat) (j : Nat) : Bool := !(((msk L).take j).any fun b => eqH b a)
theorem nR_all (L : List (Int × Ru)) : nR L L.length = fsts (L.reverse.map fun q => ruM q.2) := by
  unfold nR msk
  rw [List.take_of_length_le (by simp), List.map_reverse]
theorem nR_step {L : List (Int × Ru)} {i : Nat} (h : i < L.length) : nR L (i + 1) = nR L i + (bif fJ L (ruM L[i].2) i then 1 else 0) := by
  unfold nR fJ
  have hl : i < (msk L).length := by simp [msk, h]
  have e : (msk L)[i] = ruM L[i].2 := by simp [msk]
  rw [← List.take_append_getElem hl, List.reverse_append, e]
  simp only [List.reverse_cons, List.reverse_nil, List.nil_append, List.singleton_append, fsts, List.any_reverse]
  cases (((msk L).take i).any fun b => eqH b (ruM L[i].2)) <;> rfl
theorem nR_le (L : List (Int × Ru)) : ∀ i, nR L i ≤ i
  | 0 => by simp [nR, fsts]
  | i + 1 => by
    rcases Nat.lt_or_ge i L.length with h | h
    · rw [nR_step h]
      have := nR_le L i
      cases fJ L (ruM L[i].2) i <;> simp <;> omega
    · have := nR_le L i
      unfold nR at this ⊢
      rw [List.take_of_length_le (by simp [msk]; omega)]
      rw [List.take_of_length_le (by simp [msk]; omega)] at this
      omega
theorem fJ_step {L : List (Int × Ru)} {a : Nat → Nat} {j : Nat} (h : j < L.length) : fJ L a (j + 1) = (fJ L a j && !eqH (ruM L[j].2) a) := by
  unfold fJ
  have hl : j < (msk L).length := by simp [msk, h]
  have e : (msk L)[j] = ruM L[j].2 := by simp [msk]
  rw [← List.take_append_getElem hl, List.any_append, e]
  simp
set_option maxHeartbeats 8000000 in
theorem snd17 {m : Mem} {w : Nat} {R : RT} (hR : RB m w R) (hwf : ∀ x ∈ R.L, U64 22 x.2.w) (hl : R.L.length < 100000) :
    Snd Try.prog 17 [.ptr w 0] m fun q => q = .ret (.int .i64 (nR R.L R.L.length : Int)) m := by
  refine Snd_of_W fol rfl rfl (by kernel_rfl) (by kernel_rfl) ?_
  have tc0 : ∀ R, (rtC R)[0]? = some (rV R.L.length R.q) := fun _ => rfl
  simp -implicitDefEqProofs only [sims.1, fx.1, keeps.1, tick_on, calleeK, extractV, oneV, faddrK, nonnil, b_shr, b_shl, fieldK, Nat.reduceAdd, Nat.reduceMul, Nat.reduceSub, Nat.reduceEqDiff, Nat.reduceLT, Nat.reduceLeDiff, Nat.reduceBEq, Nat.reduceBNe, reduceIte, Int.reduceEq, Int.reduceLT, Int.reduceLE, Int.reduceNe, Int.reduceToNat]
  refine W_loopM (fun j : Nat => [(0, .ptr w 0), (4, .int .i64 (j : Int)), (3, .int .i64 (nR R.L j : Int))])
    (fun j mm => j ≤ R.L.length ∧ mm = m) (fun j => R.L.length - j) 0 (by kernel_rfl) ⟨Nat.zero_le _, rfl⟩ ?_
  rintro i mm ⟨hi, rfl⟩
  rcases Nat.lt_or_ge i R.L.length with h1 | h1
  · have d1 : decide (i < R.L.length) = true := by simpa using h1
    have c4 := wrap_i64s i (by omega)
    have c3 := wrap_i64s (nR R.L i) (by have := nR_le R.L i; omega)
    have i1 : ∀ {kk : IntKind} (j : Nat), j < R.L.length → iaddrS 26 (rV R.L.length R.q) (.int kk (j : Int)) = some (.ep 26 R.q j 0) := fun {_} j h1 => by rw [rV_pos (by omega), iaddrS_sl h1, Nat.zero_add]
    have i1i : ∀ {kk : IntKind}, iaddrS 26 (rV R.L.length R.q) (.int kk (i : Int)) = some (.ep 26 R.q i 0) := fun {_} => i1 i h1
    have hidi := fun agg s o => ep_id hR h1 agg s o
    have gi : partK true 11 (itC R.L[i]) 13 = some (.agg (hC (ruM R.L[i].2))) := rfl
    have hmi : U64 11 (ruM R.L[i].2) := fun k hk => hwf _ (List.getElem_mem h1) (11 + k) (by omega)
    simp -implicitDefEqProofs only [sims.1, fx.1, keeps.1, tick_on, calleeK, extractV, oneV, faddrK, nonnil, b_shr, b_shl, fieldK, Nat.reduceAdd, Nat.reduceMul, Nat.reduceSub, Nat.reduceEqDiff, Nat.reduceLT, Nat.reduceLeDiff, Nat.reduceBEq, Nat.reduceBNe, reduceIte, Int.reduceEq, Int.reduceLT, Int.reduceLE, Int.reduceNe, Int.reduceToNat, hR.tp, tc0, rV_len, ltNat, d1]
    refine W_loopM (fun j : Nat => [(6, .int .i64 (j : Int)), (5, .bool (fJ R.L (ruM R.L[i].2) j)), (4, .int .i64 (i : Int)), (0, .ptr w 0), (3, .int .i64 (nR R.L i : Int))])
      (fun j m2 => j ≤ i ∧ m2 = mm) (fun j => i - j) 0 (by kernel_rfl) ⟨Nat.zero_le _, rfl⟩ ?_
    rintro j m2 ⟨hj, rfl⟩
    rcases Nat.lt_or_ge j i with h2 | h2
    · have d2 : decide (j < i) = true := by simpa using h2
      have c6 := wrap_i64s j (by omega)
      have h3 : j < R.L.length := by omega
      have i1j : ∀ {kk : IntKind}, iaddrS 26 (rV R.L.length R.q) (.int kk (j : Int)) = some (.ep 26 R.q j 0) := fun {_} => i1 j h3
      have hidj := fun agg s o => ep_id hR h3 agg s o
      have gj : partK true 11 (itC R.L[j]) 13 = some (.agg (hC (ruM R.L[j].2))) := rfl
      have hmj : U64 11 (ruM R.L[j].2) := fun k hk => hwf _ (List.getElem_mem h3) (11 + k) (by omega)
      have e25 := eq25 _ _ hmj hmi
      have hst := fJ_step (a := ruM R.L[i].2) h3
      simp -implicitDefEqProofs only [sims.1, fx.1, keeps.1, tick_on, calleeK, extractV, oneV, faddrK, nonnil, b_shr, b_shl, fieldK, Nat.reduceAdd, Nat.reduceMul, Nat.reduceSub, Nat.reduceEqDiff, Nat.reduceLT, Nat.reduceLeDiff, Nat.reduceBEq, Nat.reduceBNe, reduceIte, Int.reduceEq, Int.reduceLT, Int.reduceLE, Int.reduceNe, Int.reduceToNat, ltNat, d2]
      refine w_quiet ?_
      cases ef : fJ R.L (ruM R.L[i].2) j
      · rw [ef, Bool.false_and] at hst
        simp -implicitDefEqProofs only [sims.1, fx.1, keeps.1, tick_on, calleeK, extractV, oneV, faddrK, nonnil, b_shr, b_shl, fieldK, Nat.reduceAdd, Nat.reduceMul, Nat.reduceSub, Nat.reduceEqDiff, Nat.reduceLT, Nat.reduceLeDiff, Nat.reduceBEq, Nat.reduceBNe, reduceIte, Int.reduceEq, Int.reduceLT, Int.reduceLE, Int.reduceNe, Int.reduceToNat, c6]
        exact ⟨j + 1, by rw [hst]; kernel_rfl, ⟨h2, by trivial⟩, by omega⟩
      · rw [ef, Bool.true_and] at hst
        simp -implicitDefEqProofs only [sims.1, fx.1, keeps.1, tick_on, calleeK, extractV, oneV, faddrK, nonnil, b_shr, b_shl, fieldK, Nat.reduceAdd, Nat.reduceMul, Nat.reduceSub, Nat.reduceEqDiff, Nat.reduceLT, Nat.reduceLeDiff, Nat.reduceBEq, Nat.reduceBNe, reduceIte, Int.reduceEq, Int.reduceLT, Int.reduceLE, Int.reduceNe, Int.reduceToNat, hR.tp, tc0, i1i, i1j, hidi, hidj, gi, gj, e25, c6]
        exact ⟨j + 1, by rw [hst]; kernel_rfl, ⟨h2, by trivial⟩, by omega⟩
    · have d2 : decide (j < i) = false := by simpa using h2
      obtain rfl : j = i := by omega
      have hst := nR_step h1
      simp -implicitDefEqProofs only [sims.1, fx.1, keeps.1, tick_on, calleeK, extractV, oneV, faddrK, nonnil, b_shr, b_shl, fieldK, Nat.reduceAdd, Nat.reduceMul, Nat.reduceSub, Nat.reduceEqDiff, Nat.reduceLT, Nat.reduceLeDiff, Nat.reduceBEq, Nat.reduceBNe, reduceIte, Int.reduceEq, Int.reduceLT, Int.reduceLE, Int.reduceNe, Int.reduceToNat, ltNat, d2]
      cases ef : fJ R.L (ruM R.L[j].2) j
      · rw [ef, cond_false] at hst
        simp -implicitDefEqProofs only [sims.1, fx.1, keeps.1, tick_on, calleeK, extractV, oneV, faddrK, nonnil, b_shr, b_shl, fieldK, Nat.reduceAdd, Nat.reduceMul, Nat.reduceSub, Nat.reduceEqDiff, Nat.reduceLT, Nat.reduceLeDiff, Nat.reduceBEq, Nat.reduceBNe, reduceIte, Int.reduceEq, Int.reduceLT, Int.reduceLE, Int.reduceNe, Int.reduceToNat, c4]
        exact ⟨j + 1, by rw [hst]; kernel_rfl, ⟨h1, by trivial⟩, by omega⟩
      · rw [ef, cond_true] at hst
        simp -implicitDefEqProofs only [sims.1, fx.1, keeps.1, tick_on, calleeK, extractV, oneV, faddrK, nonnil, b_shr, b_shl, fieldK, Nat.reduceAdd, Nat.reduceMul, Nat.reduceSub, Nat.reduceEqDiff, Nat.reduceLT, Nat.reduceLeDiff, Nat.reduceBEq, Nat.reduceBNe, reduceIte, Int.reduceEq, Int.reduceLT, Int.reduceLE, Int.reduceNe, Int.reduceToNat, c3, c4]
        exact ⟨j + 1, by rw [hst]; kernel_rfl, ⟨h1, by trivial⟩, by omega⟩
  · have d1 : decide (i < R.L.length) = false := by simpa using h1
    obtain rfl : i = R.L.length := by omega
    simp -implicitDefEqProofs only [sims.1, fx.1, keeps.1, tick_on, calleeK, extractV, oneV, faddrK, nonnil, b_shr, b_shl, fieldK, Nat.reduceAdd, Nat.reduceMul, Nat.reduceSub, Nat.reduceEqDiff, Nat.reduceLT, Nat.reduceLeDiff, Nat.reduceBEq, Nat.reduceBNe, reduceIte, Int.reduceEq, Int.reduceLT, Int.reduceLE, Int.reduceNe, Int.reduceToNat, hR.tp, tc0, rV_len, ltNat, d1]
end Go.Proofs.Ytffhmbdpmpgddaa
