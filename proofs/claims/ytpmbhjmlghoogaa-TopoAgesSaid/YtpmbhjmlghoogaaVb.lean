/- The probes of three gates, two of them inner ones. No condition. -/
import Derived.Test.YtpmbhjmlghoogaaVa
namespace Go.Proofs.Ytpmbhjmlghoogaa
open Go Ab
set_option linter.unusedSimpArgs false
set_option linter.unusedVariables false
set_option maxRecDepth 20000

/-! ### Appending one element -/
theorem zE30 : ((zeroE Try.prog 30).map fun x => (x.2.1, Nat.ble x.2.2 1000)) = some (2, true) := by kernel_rfl
theorem zE53 : ((zeroE Try.prog 53).map fun x => (x.2.1, Nat.ble x.2.2 1000)) = some (36, true) := by kernel_rfl
theorem zE_of {e s : Nat} (h : ((zeroE Try.prog e).map fun x => (x.2.1, Nat.ble x.2.2 1000)) = some (s, true)) : ∃ z b, zeroE Try.prog e = some (z, s, b) ∧ b ≤ 1000 := by
  cases e1 : zeroE Try.prog e with
  | none => rw [e1] at h; cases h
  | some x =>
    obtain ⟨z, s', b⟩ := x
    rw [e1] at h
    simp only [Option.map_some, Option.some.injEq, Prod.mk.injEq] at h
    exact ⟨z, b, by rw [h.1], Nat.le_of_ble_eq_true h.2⟩
theorem ap_nil1 {t e s ty : Nat} (ht : Try.prog.underlying t = some (.slice e)) (hz : ((zeroE Try.prog e).map fun x => (x.2.1, Nat.ble x.2.2 1000)) = some (s, true)) (hu : isSliceT Try.prog t = true) {m : Mem} {q : Nat} {x : List V} (hm : m[q]? = some (.row ty s [x])) :
    appendA Try.prog t t .nils (.sl s q 0 1) m = some (.sl s m.length 0 1, m ++ [.row e s [x]]) := by
  obtain ⟨z, b, h1, h2⟩ := zE_of hz
  exact append_nil ht h1 hu (cont_row hm rfl) (by simp) (by simp only [List.length_cons, List.length_nil]; omega) (by simp only [List.length_cons, List.length_nil]; omega)
theorem ap_sl1 {t e s ty : Nat} (ht : Try.prog.underlying t = some (.slice e)) (hz : ((zeroE Try.prog e).map fun x => (x.2.1, Nat.ble x.2.2 1000)) = some (s, true)) (hu : isSliceT Try.prog t = true) {m : Mem} {n q : Nat} {es : List (List V)} {x : List V} (hm : m[q]? = some (.row ty s [x])) (hn : m[n]? = some (.row e s es)) (hl : es.length ≤ 100) :
    appendA Try.prog t t (.sl s n 0 es.length) (.sl s q 0 1) m = some (.sl s m.length 0 (es.length + 1), m.set n .dead ++ [.row e s (es ++ [x])]) := by
  obtain ⟨z, b, h1, h2⟩ := zE_of hz
  have hb : (es.length + 1) * b ≤ 101 * 1000 := Nat.mul_le_mul (by omega) h2
  have hc : contV m s (.sl s q 0 1) = some [x] := cont_row hm rfl
  have := append_sl (len := es.length) ht h1 hu hc hn rfl (by simp only [List.length_cons, List.length_nil, Nat.zero_add]; omega) (by simp only [List.length_cons, List.length_nil]; omega)
  rw [this]
  simp

/-! ### A round through the gates, to its end -/
theorem next_gt2 {m : Mem} {r n : Nat} {gs : List Gt} {seen : List Nat} (h1 : m[r]? = some (.iter n gs.length seen gs.length)) (h2 : m[n]? = some (gtR gs)) :
    ∃ l, nextV m (.ptr r 0) = some l ∧ ∀ p ∈ l, (p = (.tup [.bool false], m.set r .dead) ∧ ∀ i < gs.length, i ∈ seen) ∨ ∃ i, ∃ h : i < gs.length, i ∉ seen ∧ p = (.tup [.bool true, (gtE gs[i]).1, (gtE gs[i]).2], m.set r (.iter n gs.length (seen ++ [i]) gs.length)) := by
  have hb : (List.range gs.length).all (fun b => Nat.blt b gs.length) = true := by simp
  have hl : Nat.ble gs.length gs.length = true := by simp
  simp only [nextV, h1, h2, gtR, gtB, hb, hl, Bool.and_self, cond_true]
  cases e : ((gtM gs).zip (List.range gs.length)).filter (fun p => !seen.contains p.2) with
  | nil =>
    refine ⟨_, rfl, fun p hp => .inl ⟨List.mem_singleton.1 hp, fun i hi => ?_⟩⟩
    have hm := List.mem_of_find?_eq_some (find_gt hi)
    have := List.filter_eq_nil_iff.1 e _ hm
    simpa using this
  | cons q qs =>
    refine ⟨_, rfl, fun p hp => .inr ?_⟩
    obtain ⟨q', hq, rfl⟩ := List.mem_map.1 hp
    rw [← e] at hq
    obtain ⟨h3, h4⟩ := List.mem_filter.1 hq
    obtain ⟨h5, h6⟩ := zip_gt h3
    refine ⟨q'.2, h5, by simpa using h4, ?_⟩
    rw [h6]
theorem rgx67 {es : List (V × V)} {bs : List Nat} {clk : Nat} {r : Mem} : rangeV Try.prog 67 (.map es bs clk :: r) (.mp 0) = some (.ptr (r.length + 1) 0, (.map es bs clk :: r) ++ [.iter 0 clk [] clk]) := by
  simp only [rangeV, un67]
  rfl
def perms : List (List Nat) := [[], [0], [1], [2], [0, 1], [1, 0], [0, 2], [2, 0], [1, 2], [2, 1], [0, 1, 2], [0, 2, 1], [1, 0, 2], [1, 2, 0], [2, 0, 1], [2, 1, 0]]
def vis (seen : List Nat) : List (Nat × Nat) := seen.filterMap fun i => match i with
  | 1 => some (3, 4)
  | 2 => some (5, 6)
  | _ => none
theorem perms_app : ∀ s ∈ perms, ∀ i < 3, i ∉ s → s ++ [i] ∈ perms := by decide
theorem perms_all : ∀ s ∈ perms, (∀ i < 3, i ∈ s) → vis s = [(3, 4), (5, 6)] ∨ vis s = [(5, 6), (3, 4)] := by decide
theorem perms_len : ∀ s ∈ perms, (vis s).length ≤ 2 := by decide
theorem vis_app (s : List Nat) (i : Nat) : vis (s ++ [i]) = vis s ++ vis [i] := List.filterMap_append ..
def t3V (q : Nat) (l : List (Nat × Nat)) : V := match l with
  | [] => .nils
  | _ :: _ => .sl 2 q 0 l.length
theorem st_end2 {pre : Mem} {b : B} (ty s p : Nat) : storeK 2 (pre ++ [.var ty (cl .u16 2 fun _ => 0)] ++ [b]) (.ptr pre.length 0) (spA s p) = some (pre ++ [.var ty (spC s p)] ++ [b]) := by
  have h : (pre ++ [B.var ty (cl .u16 2 fun _ => 0)] ++ [b])[pre.length]? = some (B.var ty (cl .u16 2 fun _ => 0)) := by
    rw [List.getElem?_append_left (by simp)]
    exact at_end _ _
  have h1 : (cellsOfV (spA s p)).length = 2 ∧ cellsB (spA s p) = true := ⟨rfl, rfl⟩
  unfold storeK
  rw [if_pos h1]
  simp only [h]
  have h6 : 0 + (cellsOfV (spA s p)).length ≤ (cl .u16 2 fun _ => (0 : Int)).length := Nat.le_refl 2
  rw [if_pos h6, List.set_append_left _ _ (by simp), set_end]
  rfl
theorem st_bb {pre : Mem} (ty : Nat) (x y : Bool) : storeK 2 (pre ++ [.var ty [.bool false, .bool false]]) (.ptr pre.length 0) (.agg [.bool x, .bool y]) = some (pre ++ [.var ty [.bool x, .bool y]]) := by
  have h : (pre ++ [B.var ty [.bool false, .bool false]])[pre.length]? = some (B.var ty [.bool false, .bool false]) := at_end _ _
  have h1 : (cellsOfV (V.agg [.bool x, .bool y])).length = 2 ∧ cellsB (V.agg [.bool x, .bool y]) = true := ⟨rfl, rfl⟩
  unfold storeK
  rw [if_pos h1]
  simp only [h]
  have h6 : 0 + (cellsOfV (V.agg [.bool x, .bool y])).length ≤ [V.bool false, V.bool false].length := Nat.le_refl 2
  rw [if_pos h6, set_end]
  rfl
theorem bs92 (m : Mem) (s p : Nat) : bsliceV Try.prog 92 1 [(0, .agg (spC s p))] m = some (.sl 2 m.length 0 1, m ++ [rowS [(s, p)]]) := by kernel_rfl
theorem at_mid (l : Mem) (a b : B) : (l ++ [a] ++ [b])[l.length]? = some a := by
  rw [List.getElem?_append_left (by simp)]
  exact at_end _ _
theorem at_end1 (l : Mem) (a b : B) : (l ++ [a] ++ [b])[l.length + 1]? = some b := by
  have := at_end (l ++ [a]) b
  rwa [show (l ++ [a]).length = l.length + 1 by simp] at this
theorem len1 (l : Mem) (a : B) : (l ++ [a]).length = l.length + 1 := by simp
theorem nfB_rowS : ∀ l : List (Nat × Nat), nfB (rowS l) = true
  | [] => rfl
  | x :: r => nfB_rowS r
/-- Behind a spot that is appended. -/
theorem app92 {m0 ex : Mem} {q k : Nat} {l : List (Nat × Nat)} (s p : Nat) (h0 : m0.length = k) (hl : l.length ≤ 2) (hq : l ≠ [] → ex[q]? = some (rowS l)) :
    ∃ ex', appendA Try.prog 92 92 (t3V (q + k) l) (.sl 2 (m0 ++ ex).length 0 1) (m0 ++ (ex ++ [rowS [(s, p)]])) = some (t3V (ex.length + 1 + k) (l ++ [(s, p)]), m0 ++ ex') ∧ ex'[ex.length + 1]? = some (rowS (l ++ [(s, p)])) := by
  have hl0 : (m0 ++ ex).length = ex.length + k := by rw [List.length_append]; omega
  rw [hl0]
  have hm : (m0 ++ (ex ++ [rowS [(s, p)]]))[ex.length + k]? = some (B.row 30 2 [spC s p]) := by
    rw [List.getElem?_append_right (by omega), h0, Nat.add_sub_cancel]
    exact at_end _ _
  cases l with
  | nil =>
    refine ⟨ex ++ [rowS [(s, p)]] ++ [rowS [(s, p)]], ?_, ?_⟩
    · show appendA Try.prog 92 92 .nils _ _ = _
      rw [ap_nil1 (ty := 30) (e := 30) (by kernel_rfl) zE30 (by kernel_rfl) hm]
      simp [t3V, rowS, h0]
      omega
    · have := at_end (ex ++ [rowS [(s, p)]]) (rowS [(s, p)])
      rwa [len1] at this
  | cons x r =>
    have h1 := hq (by simp)
    have hn : (m0 ++ (ex ++ [rowS [(s, p)]]))[q + k]? = some (B.row 30 2 ((x :: r).map fun x => spC x.1 x.2)) := by
      rw [List.getElem?_append_right (by omega), h0, Nat.add_sub_cancel, List.getElem?_append_left ((List.getElem?_eq_some_iff.1 h1).1)]
      exact h1
    have ha := ap_sl1 (t := 92) (e := 30) (by kernel_rfl) zE30 (by kernel_rfl) hm hn (by simp at hl ⊢; omega)
    refine ⟨(ex.set q .dead) ++ [rowS [(s, p)]] ++ [rowS (x :: r ++ [(s, p)])], ?_, ?_⟩
    · have e : t3V (q + k) (x :: r) = .sl 2 (q + k) 0 ((x :: r).map fun x => spC x.1 x.2).length := by simp [t3V]
      rw [e, ha]
      have hlt := (List.getElem?_eq_some_iff.1 h1).1
      rw [List.set_append_right _ _ (by omega), h0, Nat.add_sub_cancel, List.set_append_left _ _ hlt]
      simp [t3V, rowS, h0]
      omega
    · have := at_end (ex.set q .dead ++ [rowS [(s, p)]]) (rowS (x :: r ++ [(s, p)]))
      rw [len1, List.length_set] at this
      exact this
/-- The cells of a probe's message. -/
noncomputable def msC (s p : Nat) (F : List Nat) : List V := (List.range 36).map fun i => match i with
  | 0 => .int .i8 7
  | 28 => .int .u16 (p : Int)
  | 30 => .int .u16 (s : Int)
  | 33 => byV F
  | _ => (match zeroV Try.prog 53 with | some (.agg l) => l.getD i .unk | _ => .unk)
theorem b53 (s p : Nat) (F : List Nat) : buildV Try.prog 53 [(0, .int .i8 7), (6, .int .u16 (s : Int)), (4, .int .u16 (p : Int)), (9, byV F)] = some (.agg (msC s p F)) := by kernel_rfl
theorem bs40 (m : Mem) (s p : Nat) (F : List Nat) : bsliceV Try.prog 40 1 [(0, .agg (msC s p F))] m = some (.sl 36 m.length 0 1, m ++ [.row 53 36 [msC s p F]]) := by kernel_rfl
def t6V (q j : Nat) : V := match j with
  | 0 => .nils
  | k + 1 => .sl 36 q 0 (k + 1)
noncomputable def msR (n j : Nat) : B := .row 53 36 ([msC 3 4 (prbF n 3 4 0), msC 5 6 (prbF n 5 6 0)].take j)
/-- Behind a message that is appended. -/
theorem app40 {m0 ex : Mem} {q k j : Nat} {x : List V} (n : Nat) (h0 : m0.length = k) (hj : j ≤ 2) (hq : j ≠ 0 → ex[q]? = some (msR n j)) (hx : msR n (j + 1) = .row 53 36 (([msC 3 4 (prbF n 3 4 0), msC 5 6 (prbF n 5 6 0)].take j) ++ [x])) :
    ∃ ex', appendA Try.prog 40 40 (t6V (q + k) j) (.sl 36 (m0 ++ ex).length 0 1) (m0 ++ (ex ++ [.row 53 36 [x]])) = some (t6V (ex.length + 1 + k) (j + 1), m0 ++ ex') ∧ ex'[ex.length + 1]? = some (msR n (j + 1)) ∧ ∀ i b, ex[i]? = some b → (i ≠ q ∨ j = 0) → ex'[i]? = some b := by
  have hl0 : (m0 ++ ex).length = ex.length + k := by rw [List.length_append]; omega
  rw [hl0]
  have hm : (m0 ++ (ex ++ [B.row 53 36 [x]]))[ex.length + k]? = some (B.row 53 36 [x]) := by
    rw [List.getElem?_append_right (by omega), h0, Nat.add_sub_cancel]
    exact at_end _ _
  cases j with
  | zero =>
    refine ⟨ex ++ [.row 53 36 [x]] ++ [.row 53 36 [x]], ?_, ?_, ?_⟩
    · show appendA Try.prog 40 40 .nils _ _ = _
      rw [ap_nil1 (ty := 53) (e := 53) (by kernel_rfl) zE53 (by kernel_rfl) hm]
      simp [t6V, h0]
      omega
    · have := at_end (ex ++ [.row 53 36 [x]]) (.row 53 36 [x])
      rw [hx]
      rwa [len1] at this
    · intro i b hi _
      have := (List.getElem?_eq_some_iff.1 hi).1
      rw [List.append_assoc, List.getElem?_append_left this]
      exact hi
  | succ j =>
    have h1 := hq (by simp)
    have hlen : ([msC 3 4 (prbF n 3 4 0), msC 5 6 (prbF n 5 6 0)].take (j + 1)).length = j + 1 := by simp; omega
    have hn : (m0 ++ (ex ++ [B.row 53 36 [x]]))[q + k]? = some (msR n (j + 1)) := by
      rw [List.getElem?_append_right (by omega), h0, Nat.add_sub_cancel, List.getElem?_append_left ((List.getElem?_eq_some_iff.1 h1).1)]
      exact h1
    have ha := ap_sl1 (t := 40) (e := 53) (by kernel_rfl) zE53 (by kernel_rfl) hm hn (by rw [hlen]; omega)
    refine ⟨(ex.set q .dead) ++ [.row 53 36 [x]] ++ [msR n (j + 1 + 1)], ?_, ?_, ?_⟩
    · have e : t6V (q + k) (j + 1) = .sl 36 (q + k) 0 ([msC 3 4 (prbF n 3 4 0), msC 5 6 (prbF n 5 6 0)].take (j + 1)).length := by rw [hlen]; rfl
      rw [e, ha, hx]
      have hlt := (List.getElem?_eq_some_iff.1 h1).1
      rw [List.set_append_right _ _ (by omega), h0, Nat.add_sub_cancel, List.set_append_left _ _ hlt, hlen]
      simp [t6V, h0]
      omega
    · have := at_end (ex.set q .dead ++ [.row 53 36 [x]]) (msR n (j + 1 + 1))
      rw [len1, List.length_set] at this
      exact this
    · intro i b hi hne
      have hlt := (List.getElem?_eq_some_iff.1 hi).1
      have hiq : i ≠ q := by rcases hne with h | h; exact h; omega
      rw [List.append_assoc, List.getElem?_append_left (by simpa using hlt), List.getElem?_set_ne (Ne.symm hiq)]
      exact hi
theorem nf_ms (s p : Nat) (F : List Nat) : nfs [.agg (msC s p F)] = true := by
  have h : nfs [.agg (msC s p F)] = ((nf (byV F) && true) && true) := by kernel_rfl
  rw [h, nf_by]
  rfl
theorem and_of {a b : Bool} (h : a = true) (h2 : b = true) : (a && b) = true := by rw [h, h2]; rfl
theorem accB_of {all : Array Oper} {acc : List (Nat × Info × Nat)} {o : Oper} {inf : Info} {len : Nat} (h1 : (inf.rd ++ inf.wr).all (fun n => Nat.blt n len) = true) (h2 : (acc.all fun x => waits all o x.1 || indep x.2.1 x.2.2 inf) = true) : accB all acc o inf len = true := by
  unfold accB
  rw [h1, h2]
  rfl
theorem callE_lax {f : FuncId} {vs vs1 : List V} {v : V} {n a t : Int} {g S H : B} {ex : Mem} {K0 : V → Prop} {K1 : V → Mem → List Nat → Prop} (h : Snd Try.prog f vs1 (lay n a t g S H) fun r => r = .ret v (lay n a t g S H)) (he : enterable Try.prog f = true) (hg : nfB g = true) (hS : nfB S = true) (hH : nfB H = true)
    (hroots : rootsV (lax n a t g S H ex) vs = [3, 0, 1, 2]) (hi : inDs (fun k => [3, 0, 1, 2].contains k) vs = true) (hr : rens (idx [3, 0, 1, 2]) vs = vs1) (hv : nf v = true) (hk : K1 v (lax n a t g S H ex) [3, 0, 1, 2]) : callE Try.prog f vs (lax n a t g S H ex) K0 K1 := by
  refine .inr ?_
  rw [hroots, hr, view_lax hg hS hH]
  have hall : (lay n a t g S H).all (inDB fun _ => true) = true := by
    simp only [lay, List.all_cons, List.all_nil, nfB_inDB _ hg, nfB_inDB _ hS, nfB_inDB _ hH, Bool.and_true]
    rfl
  refine ⟨by unfold okCall; rw [hi, lax_closed hg hS hH]; rfl, he, v, _, h, ?_, rfl, ?_⟩
  · unfold okBack
    rw [nf_inD _ _ hv, hall]
    rfl
  · have hm : merge [3, 0, 1, 2] (lax n a t g S H ex) (lay n a t g S H) = lax n a t g S H ex := by
      unfold merge lay
      simp only [List.length_cons, List.length_nil, List.take, List.drop, List.map_cons, List.map_nil, List.append_nil, nfB_renB _ hg, nfB_renB _ hS, nfB_renB _ hH]
      rfl
    rw [ren_nf _ _ hv, hm]
    exact hk
def pr7 (n : Nat) (a : Int) (b1 b2 b3 : B) : Mem := [gtR gs3, .map [] [] 0, .map [] [] 0, .var 71 [.int .u64 n, .int .i64 a, .int .i64 0, .mp 0, .mp 1, .mp 2], b1, b2, b3]
theorem ord_any {l : List (Nat × Nat)} (h : l = [(3, 4), (5, 6)] ∨ l = [(5, 6), (3, 4)]) : ∃ J, nfM (rowS [(3, 4), (5, 6)] :: J) = true ∧ Snd Try.prog 32 [.sl 2 0 0 2, .fn 27 [] []] [rowS l] fun q => q = .ret (.sl 2 0 0 2) (rowS [(3, 4), (5, 6)] :: J) := by
  rcases h with rfl | rfl
  · exact ⟨jA, nfjA, ordA⟩
  · exact ⟨jB, nfjB, ordB⟩
set_option maxHeartbeats 2000000 in
theorem snd14 {n : Nat} {a : Int} {b1 b2 b3 : B} : Snd Try.prog 14 [.ptr 3 0] (lax n a 0 (gtR gs3) (.map [] [] 0) (.map [] [] 0) [b1, b2, b3]) fun r => ∃ q ex, r = .ret (.sl 36 (q + 4) 0 2) (lax n a 0 (gtR gs3) (.map [] [] 0) (.map [] [] 0) ex) ∧ ex[q]? = some (.row 53 36 [msC 3 4 (prbF n 3 4 0), msC 5 6 (prbF n 5 6 0)]) := by
  refine Snd_of_W fol rfl rfl (by kernel_rfl) (by kernel_rfl) ?_
  have rg : ∀ r, rangeV Try.prog 67 (gtR gs3 :: r) (.mp 0) = some (.ptr (r.length + 1) 0, (gtR gs3 :: r) ++ [.iter 0 gs3.length [] gs3.length]) := fun _ => rgx67
  unfold lax
  simp -implicitDefEqProofs only [sims.1, fx.1, tick_on, calleeK, List.getElem?_toArray, extractV, oneV, faddrK, nonnil, b_shr, b_shl, eq_self, beq_self_eq_true, fieldK, Option.bind_some, Option.map_some, Option.bind_none, Option.map_none, List.map_cons, List.map_nil, List.getD_cons_zero, List.getD_cons_succ, List.getD_nil, List.length_nil, List.length_cons, List.length_set, List.nil_append, List.cons_append, List.append_nil, List.getElem?_cons_zero, List.getElem?_cons_succ, List.getElem?_nil, List.set_cons_zero, List.set_cons_succ, Nat.reduceAdd, Nat.zero_add, Nat.add_zero, Nat.mul_one, Nat.mul_zero, Nat.zero_mul, Nat.reduceMul, Nat.reduceSub, Nat.reduceEqDiff, Nat.reduceLT, Nat.reduceLeDiff, Nat.reduceBEq, Nat.reduceBNe, Nat.succ_ne_self, reduceIte, if_true, if_false, ite_self, decide_true, decide_false, Bool.not_true, Bool.not_false, Bool.and_true, Bool.true_and, Bool.and_false, Bool.false_and, Bool.or_true, Bool.true_or, Bool.or_false, Bool.false_or, cond_true, cond_false, Int.reduceEq, Int.reduceLT, Int.reduceLE, Int.reduceNe, Int.reduceToNat, pe24, rg]
  refine W_loopM (fun x : List Nat × Nat => [(15, .ptr 7 0), (3, t3V (x.2 + 8) (vis x.1)), (0, .ptr 3 0)])
    (fun x mm => x.1 ∈ perms ∧ ∃ ex, mm = gtR gs3 :: .map [] [] 0 :: .map [] [] 0 :: .var 71 [.int .u64 n, .int .i64 a, .int .i64 0, .mp 0, .mp 1, .mp 2] :: b1 :: b2 :: b3 :: .iter 0 gs3.length x.1 gs3.length :: ex ∧ (vis x.1 ≠ [] → ex[x.2]? = some (rowS (vis x.1)))) (fun x => left 3 x.1) ([], 0)
    (by kernel_rfl) ⟨by decide, [], rfl, fun h => absurd rfl h⟩ ?_
  have pk : ∀ s p, partK true 2 (spC s p) 0 = some (.agg (spC s p)) := fun _ _ => rfl
  rintro ⟨seen, q⟩ mm ⟨hp0, ex, rfl, hq⟩
  simp only at hp0 hq
  obtain ⟨l, hn, hall⟩ := next_gt2 (m := gtR gs3 :: .map [] [] 0 :: .map [] [] 0 :: .var 71 [.int .u64 n, .int .i64 a, .int .i64 0, .mp 0, .mp 1, .mp 2] :: b1 :: b2 :: b3 :: .iter 0 gs3.length seen gs3.length :: ex) (r := 7) (n := 0) (gs := gs3) (seen := seen) rfl rfl
  simp -implicitDefEqProofs only [sims.1, fx.1, tick_on, calleeK, List.getElem?_toArray, extractV, oneV, faddrK, nonnil, b_shr, b_shl, eq_self, beq_self_eq_true, fieldK, Option.bind_some, Option.map_some, Option.bind_none, Option.map_none, List.map_cons, List.map_nil, List.getD_cons_zero, List.getD_cons_succ, List.getD_nil, List.length_nil, List.length_cons, List.length_set, List.nil_append, List.cons_append, List.append_nil, List.getElem?_cons_zero, List.getElem?_cons_succ, List.getElem?_nil, List.set_cons_zero, List.set_cons_succ, Nat.reduceAdd, Nat.zero_add, Nat.add_zero, Nat.mul_one, Nat.mul_zero, Nat.zero_mul, Nat.reduceMul, Nat.reduceSub, Nat.reduceEqDiff, Nat.reduceLT, Nat.reduceLeDiff, Nat.reduceBEq, Nat.reduceBNe, Nat.succ_ne_self, reduceIte, if_true, if_false, ite_self, decide_true, decide_false, Bool.not_true, Bool.not_false, Bool.and_true, Bool.true_and, Bool.and_false, Bool.false_and, Bool.or_true, Bool.true_or, Bool.or_false, Bool.false_or, cond_true, cond_false, Int.reduceEq, Int.reduceLT, Int.reduceLE, Int.reduceNe, Int.reduceToNat, hn]
  intro p hp
  rcases hall p hp with ⟨rfl, hdone⟩ | ⟨i, hi, hs, rfl⟩
  · have hv := perms_all seen hp0 hdone
    obtain ⟨J, hJ, hord⟩ := ord_any hv
    have hne : vis seen ≠ [] := by rcases hv with h | h <;> rw [h] <;> simp
    have hq1 := hq hne
    have hqlt : q < ex.length := (List.getElem?_eq_some_iff.1 hq1).1
    have et : t3V (q + 8) (vis seen) = .sl 2 (q + 8) 0 2 := by rcases hv with h | h <;> rw [h] <;> rfl
    simp -implicitDefEqProofs only [sims.1, fx.1, tick_on, calleeK, List.getElem?_toArray, extractV, oneV, faddrK, nonnil, b_shr, b_shl, eq_self, beq_self_eq_true, fieldK, Option.bind_some, Option.map_some, Option.bind_none, Option.map_none, List.map_cons, List.map_nil, List.getD_cons_zero, List.getD_cons_succ, List.getD_nil, List.length_nil, List.length_cons, List.length_set, List.nil_append, List.cons_append, List.append_nil, List.getElem?_cons_zero, List.getElem?_cons_succ, List.getElem?_nil, List.set_cons_zero, List.set_cons_succ, Nat.reduceAdd, Nat.zero_add, Nat.add_zero, Nat.mul_one, Nat.mul_zero, Nat.zero_mul, Nat.reduceMul, Nat.reduceSub, Nat.reduceEqDiff, Nat.reduceLT, Nat.reduceLeDiff, Nat.reduceBEq, Nat.reduceBNe, Nat.succ_ne_self, reduceIte, if_true, if_false, ite_self, decide_true, decide_false, Bool.not_true, Bool.not_false, Bool.and_true, Bool.true_and, Bool.and_false, Bool.false_and, Bool.or_true, Bool.true_or, Bool.or_false, Bool.false_or, cond_true, cond_false, Int.reduceEq, Int.reduceLT, Int.reduceLE, Int.reduceNe, Int.reduceToNat, et]
    refine callD_row hord en32 (nfB_rowS _) hJ (m := gtR gs3 :: .map [] [] 0 :: .map [] [] 0 :: .var 71 [.int .u64 n, .int .i64 a, .int .i64 0, .mp 0, .mp 1, .mp 2] :: b1 :: b2 :: b3 :: .dead :: ex) (n := q + 8) hq1 rfl rfl ?_
    have er : ∀ N, ren (back [q + 8] N) (.sl 2 0 0 2) = .sl 2 (q + 8) 0 2 := fun _ => rfl
    have em : (gtR gs3 :: B.map [] [] 0 :: B.map [] [] 0 :: B.var 71 [.int .u64 n, .int .i64 a, .int .i64 0, .mp 0, .mp 1, .mp 2] :: b1 :: b2 :: b3 :: .dead :: ex).set (q + 8) (rowS [(3, 4), (5, 6)]) ++ J = gtR gs3 :: B.map [] [] 0 :: B.map [] [] 0 :: B.var 71 [.int .u64 n, .int .i64 a, .int .i64 0, .mp 0, .mp 1, .mp 2] :: b1 :: b2 :: b3 :: .dead :: (ex.set q (rowS [(3, 4), (5, 6)]) ++ J) := rfl
    have hE : (ex.set q (rowS [(3, 4), (5, 6)]) ++ J)[q]? = some (rowS [(3, 4), (5, 6)]) := by
      rw [List.getElem?_append_left (by simpa using hqlt)]
      simp [hqlt]
    rw [em, er]
    generalize ex.set q (rowS [(3, 4), (5, 6)]) ++ J = E at hE
    simp -implicitDefEqProofs only [sims.1, fx.1, tick_on, calleeK, List.getElem?_toArray, extractV, oneV, faddrK, nonnil, b_shr, b_shl, eq_self, beq_self_eq_true, fieldK, Option.bind_some, Option.map_some, Option.bind_none, Option.map_none, List.map_cons, List.map_nil, List.getD_cons_zero, List.getD_cons_succ, List.getD_nil, List.length_nil, List.length_cons, List.length_set, List.nil_append, List.cons_append, List.append_nil, List.getElem?_cons_zero, List.getElem?_cons_succ, List.getElem?_nil, List.set_cons_zero, List.set_cons_succ, Nat.reduceAdd, Nat.zero_add, Nat.add_zero, Nat.mul_one, Nat.mul_zero, Nat.zero_mul, Nat.reduceMul, Nat.reduceSub, Nat.reduceEqDiff, Nat.reduceLT, Nat.reduceLeDiff, Nat.reduceBEq, Nat.reduceBNe, Nat.succ_ne_self, reduceIte, if_true, if_false, ite_self, decide_true, decide_false, Bool.not_true, Bool.not_false, Bool.and_true, Bool.true_and, Bool.and_false, Bool.false_and, Bool.or_true, Bool.true_or, Bool.or_false, Bool.false_or, cond_true, cond_false, Int.reduceEq, Int.reduceLT, Int.reduceLE, Int.reduceNe, Int.reduceToNat]
    refine W_loopM (fun x : Nat × Nat => [(35, .int .i64 2), (34, .sl 2 (q + 8) 0 2), (0, .ptr 3 0), (36, .int .i64 (x.1 : Int)), (6, t6V (x.2 + 8) x.1)])
      (fun x mm => x.1 ≤ 2 ∧ ∃ E, mm = gtR gs3 :: B.map [] [] 0 :: B.map [] [] 0 :: B.var 71 [.int .u64 n, .int .i64 a, .int .i64 0, .mp 0, .mp 1, .mp 2] :: b1 :: b2 :: b3 :: .dead :: E ∧ E[q]? = some (rowS [(3, 4), (5, 6)]) ∧ (x.1 ≠ 0 → E[x.2]? = some (msR n x.1))) (fun x => 2 - x.1) (0, 0)
      (by kernel_rfl) ⟨by decide, E, rfl, hE, fun h => absurd rfl h⟩ ?_
    rintro ⟨j, q2⟩ mm ⟨hj, E, rfl, hE, hE2⟩
    simp only at hj hE2
    have hj3 : j = 0 ∨ j = 1 ∨ j = 2 := by omega
    rcases hj3 with rfl | rfl | rfl
    · have c1 : decide (((0 : Nat) : Int) < 2) = true := rfl
      have i1 : ∀ {kk : IntKind}, iaddrS 2 (.sl 2 (q + 8) 0 2) (.int kk ((0 : Nat) : Int)) = some (.ep 2 (q + 8) 0 0) := rfl
      have l1 : ∀ it, loadK true 2 (gtR gs3 :: B.map [] [] 0 :: B.map [] [] 0 :: B.var 71 [.int .u64 n, .int .i64 a, .int .i64 0, .mp 0, .mp 1, .mp 2] :: b1 :: b2 :: b3 :: it :: E) (.ep 2 (q + 8) 0 0) = some (.agg (spC 3 4)) := fun it => by
        rw [loadK_ep]
        show (E[q]?).bind _ = _
        rw [hE]
        rfl
      have hst : ∀ s p, storeK 2 (gtR gs3 :: .map [] [] 0 :: .map [] [] 0 :: .var 71 [.int .u64 n, .int .i64 a, .int .i64 0, .mp 0, .mp 1, .mp 2] :: b1 :: b2 :: b3 :: .dead :: (E ++ [.var 30 (cl .u16 2 fun _ => 0)])) (.ptr (E.length + 1 + 1 + 1 + 1 + 1 + 1 + 1 + 1) 0) (.agg (spC s p)) = some (gtR gs3 :: .map [] [] 0 :: .map [] [] 0 :: .var 71 [.int .u64 n, .int .i64 a, .int .i64 0, .mp 0, .mp 1, .mp 2] :: b1 :: b2 :: b3 :: .dead :: (E ++ [.var 30 (spC s p)])) := fun s p => st_end (pre := gtR gs3 :: .map [] [] 0 :: .map [] [] 0 :: .var 71 [.int .u64 n, .int .i64 a, .int .i64 0, .mp 0, .mp 1, .mp 2] :: b1 :: b2 :: b3 :: .dead :: E) 30 s p
      have ae : ∀ b : B, (E ++ [b])[E.length]? = some b := fun b => at_end E b
      obtain ⟨ex2, happ, hat, hkeep⟩ := app40 (m0 := [gtR gs3, .map [] [] 0, .map [] [] 0, .var 71 [.int .u64 n, .int .i64 a, .int .i64 0, .mp 0, .mp 1, .mp 2], b1, b2, b3, .dead]) (ex := E ++ [.var 30 (spC 3 4)]) (k := 8) (q := q2) (j := 0) (x := msC 3 4 (prbF n 3 4 0)) n rfl (by decide) (fun h => absurd rfl h) rfl
      simp only [List.cons_append, List.nil_append, List.length_cons] at happ hat
      simp -implicitDefEqProofs only [sims.1, fx.1, tick_on, calleeK, List.getElem?_toArray, extractV, oneV, faddrK, nonnil, b_shr, b_shl, eq_self, beq_self_eq_true, fieldK, Option.bind_some, Option.map_some, Option.bind_none, Option.map_none, List.map_cons, List.map_nil, List.getD_cons_zero, List.getD_cons_succ, List.getD_nil, List.length_nil, List.length_cons, List.length_set, List.nil_append, List.cons_append, List.append_nil, List.getElem?_cons_zero, List.getElem?_cons_succ, List.getElem?_nil, List.set_cons_zero, List.set_cons_succ, Nat.reduceAdd, Nat.zero_add, Nat.add_zero, Nat.mul_one, Nat.mul_zero, Nat.zero_mul, Nat.reduceMul, Nat.reduceSub, Nat.reduceEqDiff, Nat.reduceLT, Nat.reduceLeDiff, Nat.reduceBEq, Nat.reduceBNe, Nat.succ_ne_self, reduceIte, if_true, if_false, ite_self, decide_true, decide_false, Bool.not_true, Bool.not_false, Bool.and_true, Bool.true_and, Bool.and_false, Bool.false_and, Bool.or_true, Bool.true_or, Bool.or_false, Bool.false_or, cond_true, cond_false, Int.reduceEq, Int.reduceLT, Int.reduceLE, Int.reduceNe, Int.reduceToNat, c1, i1, l1, hst]
      refine w_noisy ?_
      have c30 : (spC 3 4)[0]? = some (.int .u16 3) := rfl
      have c31 : (spC 3 4)[1]? = some (.int .u16 4) := rfl
      simp -implicitDefEqProofs only [sims.1, fx.1, tick_on, calleeK, List.getElem?_toArray, extractV, oneV, faddrK, nonnil, b_shr, b_shl, eq_self, beq_self_eq_true, fieldK, Option.bind_some, Option.map_some, Option.bind_none, Option.map_none, List.map_cons, List.map_nil, List.getD_cons_zero, List.getD_cons_succ, List.getD_nil, List.length_nil, List.length_cons, List.length_set, List.nil_append, List.cons_append, List.append_nil, List.getElem?_cons_zero, List.getElem?_cons_succ, List.getElem?_nil, List.set_cons_zero, List.set_cons_succ, Nat.reduceAdd, Nat.zero_add, Nat.add_zero, Nat.mul_one, Nat.mul_zero, Nat.zero_mul, Nat.reduceMul, Nat.reduceSub, Nat.reduceEqDiff, Nat.reduceLT, Nat.reduceLeDiff, Nat.reduceBEq, Nat.reduceBNe, Nat.succ_ne_self, reduceIte, if_true, if_false, ite_self, decide_true, decide_false, Bool.not_true, Bool.not_false, Bool.and_true, Bool.true_and, Bool.and_false, Bool.false_and, Bool.or_true, Bool.true_or, Bool.or_false, Bool.false_or, cond_true, cond_false, Int.reduceEq, Int.reduceLT, Int.reduceLE, Int.reduceNe, Int.reduceToNat, ae, c30, c31, pk]
      iterate 8
        first
        | (refine orderP_of (accB_of (by first | rfl | (simp [nms, t6V]; done) | (simp [nms, t6V]; omega)) (by kernel_rfl)) ?_
           simp -implicitDefEqProofs only [sims.1, fx.1, tick_on, calleeK, List.getElem?_toArray, extractV, oneV, faddrK, nonnil, b_shr, b_shl, eq_self, beq_self_eq_true, fieldK, Option.bind_some, Option.map_some, Option.bind_none, Option.map_none, List.map_cons, List.map_nil, List.getD_cons_zero, List.getD_cons_succ, List.getD_nil, List.length_nil, List.length_cons, List.length_set, List.nil_append, List.cons_append, List.append_nil, List.getElem?_cons_zero, List.getElem?_cons_succ, List.getElem?_nil, List.set_cons_zero, List.set_cons_succ, Nat.reduceAdd, Nat.zero_add, Nat.add_zero, Nat.mul_one, Nat.mul_zero, Nat.zero_mul, Nat.reduceMul, Nat.reduceSub, Nat.reduceEqDiff, Nat.reduceLT, Nat.reduceLeDiff, Nat.reduceBEq, Nat.reduceBNe, Nat.succ_ne_self, reduceIte, if_true, if_false, ite_self, decide_true, decide_false, Bool.not_true, Bool.not_false, Bool.and_true, Bool.true_and, Bool.and_false, Bool.false_and, Bool.or_true, Bool.true_or, Bool.or_false, Bool.false_or, cond_true, cond_false, Int.reduceEq, Int.reduceLT, Int.reduceLE, Int.reduceNe, Int.reduceToNat, ae, c30, c31, pk])
        | skip
      refine callE_lax (vs := [.ptr 3 0, .agg (spC 3 4), .int .i64 0]) (n := n) (a := a) (t := 0) (g := gtR gs3) (S := .map [] [] 0) (H := .map [] [] 0) (ex := b1 :: b2 :: b3 :: .dead :: (E ++ [.var 30 (spC 3 4)])) (snd26 (n := n) (s := 3) (p := 4) (t := 0) (by decide) (by decide) (by decide) (nfB_gt _ _ _) rfl rfl) en26 (nfB_gt _ _ _) rfl rfl rfl rfl rfl (nf_by _) ?_
      unfold lax
      have b53 : buildV Try.prog 53 [(0, .int .i8 7), (6, .int .u16 3), (4, .int .u16 4), (9, byV (prbF n 3 4 0))] = some (.agg (msC 3 4 (prbF n 3 4 0))) := b53 3 4 _
      simp -implicitDefEqProofs only [sims.1, fx.1, tick_on, calleeK, List.getElem?_toArray, extractV, oneV, faddrK, nonnil, b_shr, b_shl, eq_self, beq_self_eq_true, fieldK, Option.bind_some, Option.map_some, Option.bind_none, Option.map_none, List.map_cons, List.map_nil, List.getD_cons_zero, List.getD_cons_succ, List.getD_nil, List.length_nil, List.length_cons, List.length_set, List.nil_append, List.cons_append, List.append_nil, List.getElem?_cons_zero, List.getElem?_cons_succ, List.getElem?_nil, List.set_cons_zero, List.set_cons_succ, Nat.reduceAdd, Nat.zero_add, Nat.add_zero, Nat.mul_one, Nat.mul_zero, Nat.zero_mul, Nat.reduceMul, Nat.reduceSub, Nat.reduceEqDiff, Nat.reduceLT, Nat.reduceLeDiff, Nat.reduceBEq, Nat.reduceBNe, Nat.succ_ne_self, reduceIte, if_true, if_false, ite_self, decide_true, decide_false, Bool.not_true, Bool.not_false, Bool.and_true, Bool.true_and, Bool.and_false, Bool.false_and, Bool.or_true, Bool.true_or, Bool.or_false, Bool.false_or, cond_true, cond_false, Int.reduceEq, Int.reduceLT, Int.reduceLE, Int.reduceNe, Int.reduceToNat, b53, bs40]
      iterate 12
        first
        | (refine orderP_of (accB_of (by first | rfl | (simp [nms, t6V]; done) | (simp [nms, t6V]; omega)) (by kernel_rfl)) ?_
           simp -implicitDefEqProofs only [sims.1, fx.1, tick_on, calleeK, List.getElem?_toArray, extractV, oneV, faddrK, nonnil, b_shr, b_shl, eq_self, beq_self_eq_true, fieldK, Option.bind_some, Option.map_some, Option.bind_none, Option.map_none, List.map_cons, List.map_nil, List.getD_cons_zero, List.getD_cons_succ, List.getD_nil, List.length_nil, List.length_cons, List.length_set, List.nil_append, List.cons_append, List.append_nil, List.getElem?_cons_zero, List.getElem?_cons_succ, List.getElem?_nil, List.set_cons_zero, List.set_cons_succ, Nat.reduceAdd, Nat.zero_add, Nat.add_zero, Nat.mul_one, Nat.mul_zero, Nat.zero_mul, Nat.reduceMul, Nat.reduceSub, Nat.reduceEqDiff, Nat.reduceLT, Nat.reduceLeDiff, Nat.reduceBEq, Nat.reduceBNe, Nat.succ_ne_self, reduceIte, if_true, if_false, ite_self, decide_true, decide_false, Bool.not_true, Bool.not_false, Bool.and_true, Bool.true_and, Bool.and_false, Bool.false_and, Bool.or_true, Bool.true_or, Bool.or_false, Bool.false_or, cond_true, cond_false, Int.reduceEq, Int.reduceLT, Int.reduceLE, Int.reduceNe, Int.reduceToNat, b53, bs40, happ])
        | (refine orderP_of (and_of (by rw [nf_ms]; rfl) (accB_of (by first | rfl | (simp [nms, t6V]; done) | (simp [nms, t6V]; omega)) (by kernel_rfl))) ?_
           simp -implicitDefEqProofs only [sims.1, fx.1, tick_on, calleeK, List.getElem?_toArray, extractV, oneV, faddrK, nonnil, b_shr, b_shl, eq_self, beq_self_eq_true, fieldK, Option.bind_some, Option.map_some, Option.bind_none, Option.map_none, List.map_cons, List.map_nil, List.getD_cons_zero, List.getD_cons_succ, List.getD_nil, List.length_nil, List.length_cons, List.length_set, List.nil_append, List.cons_append, List.append_nil, List.getElem?_cons_zero, List.getElem?_cons_succ, List.getElem?_nil, List.set_cons_zero, List.set_cons_succ, Nat.reduceAdd, Nat.zero_add, Nat.add_zero, Nat.mul_one, Nat.mul_zero, Nat.zero_mul, Nat.reduceMul, Nat.reduceSub, Nat.reduceEqDiff, Nat.reduceLT, Nat.reduceLeDiff, Nat.reduceBEq, Nat.reduceBNe, Nat.succ_ne_self, reduceIte, if_true, if_false, ite_self, decide_true, decide_false, Bool.not_true, Bool.not_false, Bool.and_true, Bool.true_and, Bool.and_false, Bool.false_and, Bool.or_true, Bool.true_or, Bool.or_false, Bool.false_or, cond_true, cond_false, Int.reduceEq, Int.reduceLT, Int.reduceLE, Int.reduceNe, Int.reduceToNat, b53, bs40, happ])
        | skip
      refine ⟨(1, (E ++ [B.var 30 (spC 3 4)]).length + 1), by kernel_rfl, ⟨by dsimp only; omega, ex2, rfl, hkeep q _ ?_ (.inr rfl), fun _ => hat⟩, by dsimp only; omega⟩
      rw [List.getElem?_append_left (List.getElem?_eq_some_iff.1 hE).1]
      exact hE
    · have c1 : decide (((1 : Nat) : Int) < 2) = true := rfl
      have i1 : ∀ {kk : IntKind}, iaddrS 2 (.sl 2 (q + 8) 0 2) (.int kk ((1 : Nat) : Int)) = some (.ep 2 (q + 8) 1 0) := rfl
      have l1 : ∀ it, loadK true 2 (gtR gs3 :: B.map [] [] 0 :: B.map [] [] 0 :: B.var 71 [.int .u64 n, .int .i64 a, .int .i64 0, .mp 0, .mp 1, .mp 2] :: b1 :: b2 :: b3 :: it :: E) (.ep 2 (q + 8) 1 0) = some (.agg (spC 5 6)) := fun it => by
        rw [loadK_ep]
        show (E[q]?).bind _ = _
        rw [hE]
        rfl
      have hst : ∀ s p, storeK 2 (gtR gs3 :: .map [] [] 0 :: .map [] [] 0 :: .var 71 [.int .u64 n, .int .i64 a, .int .i64 0, .mp 0, .mp 1, .mp 2] :: b1 :: b2 :: b3 :: .dead :: (E ++ [.var 30 (cl .u16 2 fun _ => 0)])) (.ptr (E.length + 1 + 1 + 1 + 1 + 1 + 1 + 1 + 1) 0) (.agg (spC s p)) = some (gtR gs3 :: .map [] [] 0 :: .map [] [] 0 :: .var 71 [.int .u64 n, .int .i64 a, .int .i64 0, .mp 0, .mp 1, .mp 2] :: b1 :: b2 :: b3 :: .dead :: (E ++ [.var 30 (spC s p)])) := fun s p => st_end (pre := gtR gs3 :: .map [] [] 0 :: .map [] [] 0 :: .var 71 [.int .u64 n, .int .i64 a, .int .i64 0, .mp 0, .mp 1, .mp 2] :: b1 :: b2 :: b3 :: .dead :: E) 30 s p
      have ae : ∀ b : B, (E ++ [b])[E.length]? = some b := fun b => at_end E b
      have hq2l : q2 < E.length := (List.getElem?_eq_some_iff.1 (hE2 (by decide))).1
      have hqq : q ≠ q2 := by
        rintro rfl
        have h2 := hE2 (by decide)
        rw [hE] at h2
        cases h2
      obtain ⟨ex2, happ, hat, hkeep⟩ := app40 (m0 := [gtR gs3, .map [] [] 0, .map [] [] 0, .var 71 [.int .u64 n, .int .i64 a, .int .i64 0, .mp 0, .mp 1, .mp 2], b1, b2, b3, .dead]) (ex := E ++ [.var 30 (spC 5 6)]) (k := 8) (q := q2) (j := 1) (x := msC 5 6 (prbF n 5 6 0)) n rfl (by decide) (fun h => by rw [List.getElem?_append_left (List.getElem?_eq_some_iff.1 (hE2 h)).1]; exact hE2 h) rfl
      simp only [List.cons_append, List.nil_append, List.length_cons] at happ hat
      simp -implicitDefEqProofs only [sims.1, fx.1, tick_on, calleeK, List.getElem?_toArray, extractV, oneV, faddrK, nonnil, b_shr, b_shl, eq_self, beq_self_eq_true, fieldK, Option.bind_some, Option.map_some, Option.bind_none, Option.map_none, List.map_cons, List.map_nil, List.getD_cons_zero, List.getD_cons_succ, List.getD_nil, List.length_nil, List.length_cons, List.length_set, List.nil_append, List.cons_append, List.append_nil, List.getElem?_cons_zero, List.getElem?_cons_succ, List.getElem?_nil, List.set_cons_zero, List.set_cons_succ, Nat.reduceAdd, Nat.zero_add, Nat.add_zero, Nat.mul_one, Nat.mul_zero, Nat.zero_mul, Nat.reduceMul, Nat.reduceSub, Nat.reduceEqDiff, Nat.reduceLT, Nat.reduceLeDiff, Nat.reduceBEq, Nat.reduceBNe, Nat.succ_ne_self, reduceIte, if_true, if_false, ite_self, decide_true, decide_false, Bool.not_true, Bool.not_false, Bool.and_true, Bool.true_and, Bool.and_false, Bool.false_and, Bool.or_true, Bool.true_or, Bool.or_false, Bool.false_or, cond_true, cond_false, Int.reduceEq, Int.reduceLT, Int.reduceLE, Int.reduceNe, Int.reduceToNat, c1, i1, l1, hst]
      refine w_noisy ?_
      have c30 : (spC 5 6)[0]? = some (.int .u16 5) := rfl
      have c31 : (spC 5 6)[1]? = some (.int .u16 6) := rfl
      simp -implicitDefEqProofs only [sims.1, fx.1, tick_on, calleeK, List.getElem?_toArray, extractV, oneV, faddrK, nonnil, b_shr, b_shl, eq_self, beq_self_eq_true, fieldK, Option.bind_some, Option.map_some, Option.bind_none, Option.map_none, List.map_cons, List.map_nil, List.getD_cons_zero, List.getD_cons_succ, List.getD_nil, List.length_nil, List.length_cons, List.length_set, List.nil_append, List.cons_append, List.append_nil, List.getElem?_cons_zero, List.getElem?_cons_succ, List.getElem?_nil, List.set_cons_zero, List.set_cons_succ, Nat.reduceAdd, Nat.zero_add, Nat.add_zero, Nat.mul_one, Nat.mul_zero, Nat.zero_mul, Nat.reduceMul, Nat.reduceSub, Nat.reduceEqDiff, Nat.reduceLT, Nat.reduceLeDiff, Nat.reduceBEq, Nat.reduceBNe, Nat.succ_ne_self, reduceIte, if_true, if_false, ite_self, decide_true, decide_false, Bool.not_true, Bool.not_false, Bool.and_true, Bool.true_and, Bool.and_false, Bool.false_and, Bool.or_true, Bool.true_or, Bool.or_false, Bool.false_or, cond_true, cond_false, Int.reduceEq, Int.reduceLT, Int.reduceLE, Int.reduceNe, Int.reduceToNat, ae, c30, c31, pk]
      iterate 8
        first
        | (refine orderP_of (accB_of (by first | rfl | (simp [nms, t6V]; done) | (simp [nms, t6V]; omega)) (by kernel_rfl)) ?_
           simp -implicitDefEqProofs only [sims.1, fx.1, tick_on, calleeK, List.getElem?_toArray, extractV, oneV, faddrK, nonnil, b_shr, b_shl, eq_self, beq_self_eq_true, fieldK, Option.bind_some, Option.map_some, Option.bind_none, Option.map_none, List.map_cons, List.map_nil, List.getD_cons_zero, List.getD_cons_succ, List.getD_nil, List.length_nil, List.length_cons, List.length_set, List.nil_append, List.cons_append, List.append_nil, List.getElem?_cons_zero, List.getElem?_cons_succ, List.getElem?_nil, List.set_cons_zero, List.set_cons_succ, Nat.reduceAdd, Nat.zero_add, Nat.add_zero, Nat.mul_one, Nat.mul_zero, Nat.zero_mul, Nat.reduceMul, Nat.reduceSub, Nat.reduceEqDiff, Nat.reduceLT, Nat.reduceLeDiff, Nat.reduceBEq, Nat.reduceBNe, Nat.succ_ne_self, reduceIte, if_true, if_false, ite_self, decide_true, decide_false, Bool.not_true, Bool.not_false, Bool.and_true, Bool.true_and, Bool.and_false, Bool.false_and, Bool.or_true, Bool.true_or, Bool.or_false, Bool.false_or, cond_true, cond_false, Int.reduceEq, Int.reduceLT, Int.reduceLE, Int.reduceNe, Int.reduceToNat, ae, c30, c31, pk])
        | skip
      refine callE_lax (vs := [.ptr 3 0, .agg (spC 5 6), .int .i64 0]) (n := n) (a := a) (t := 0) (g := gtR gs3) (S := .map [] [] 0) (H := .map [] [] 0) (ex := b1 :: b2 :: b3 :: .dead :: (E ++ [.var 30 (spC 5 6)])) (snd26 (n := n) (s := 5) (p := 6) (t := 0) (by decide) (by decide) (by decide) (nfB_gt _ _ _) rfl rfl) en26 (nfB_gt _ _ _) rfl rfl rfl rfl rfl (nf_by _) ?_
      unfold lax
      have b53 : buildV Try.prog 53 [(0, .int .i8 7), (6, .int .u16 5), (4, .int .u16 6), (9, byV (prbF n 5 6 0))] = some (.agg (msC 5 6 (prbF n 5 6 0))) := b53 5 6 _
      simp -implicitDefEqProofs only [sims.1, fx.1, tick_on, calleeK, List.getElem?_toArray, extractV, oneV, faddrK, nonnil, b_shr, b_shl, eq_self, beq_self_eq_true, fieldK, Option.bind_some, Option.map_some, Option.bind_none, Option.map_none, List.map_cons, List.map_nil, List.getD_cons_zero, List.getD_cons_succ, List.getD_nil, List.length_nil, List.length_cons, List.length_set, List.nil_append, List.cons_append, List.append_nil, List.getElem?_cons_zero, List.getElem?_cons_succ, List.getElem?_nil, List.set_cons_zero, List.set_cons_succ, Nat.reduceAdd, Nat.zero_add, Nat.add_zero, Nat.mul_one, Nat.mul_zero, Nat.zero_mul, Nat.reduceMul, Nat.reduceSub, Nat.reduceEqDiff, Nat.reduceLT, Nat.reduceLeDiff, Nat.reduceBEq, Nat.reduceBNe, Nat.succ_ne_self, reduceIte, if_true, if_false, ite_self, decide_true, decide_false, Bool.not_true, Bool.not_false, Bool.and_true, Bool.true_and, Bool.and_false, Bool.false_and, Bool.or_true, Bool.true_or, Bool.or_false, Bool.false_or, cond_true, cond_false, Int.reduceEq, Int.reduceLT, Int.reduceLE, Int.reduceNe, Int.reduceToNat, b53, bs40]
      iterate 12
        first
        | (refine orderP_of (accB_of (by first | rfl | (simp [nms, t6V]; done) | (simp [nms, t6V]; omega)) (by kernel_rfl)) ?_
           simp -implicitDefEqProofs only [sims.1, fx.1, tick_on, calleeK, List.getElem?_toArray, extractV, oneV, faddrK, nonnil, b_shr, b_shl, eq_self, beq_self_eq_true, fieldK, Option.bind_some, Option.map_some, Option.bind_none, Option.map_none, List.map_cons, List.map_nil, List.getD_cons_zero, List.getD_cons_succ, List.getD_nil, List.length_nil, List.length_cons, List.length_set, List.nil_append, List.cons_append, List.append_nil, List.getElem?_cons_zero, List.getElem?_cons_succ, List.getElem?_nil, List.set_cons_zero, List.set_cons_succ, Nat.reduceAdd, Nat.zero_add, Nat.add_zero, Nat.mul_one, Nat.mul_zero, Nat.zero_mul, Nat.reduceMul, Nat.reduceSub, Nat.reduceEqDiff, Nat.reduceLT, Nat.reduceLeDiff, Nat.reduceBEq, Nat.reduceBNe, Nat.succ_ne_self, reduceIte, if_true, if_false, ite_self, decide_true, decide_false, Bool.not_true, Bool.not_false, Bool.and_true, Bool.true_and, Bool.and_false, Bool.false_and, Bool.or_true, Bool.true_or, Bool.or_false, Bool.false_or, cond_true, cond_false, Int.reduceEq, Int.reduceLT, Int.reduceLE, Int.reduceNe, Int.reduceToNat, b53, bs40, happ])
        | (refine orderP_of (and_of (by rw [nf_ms]; rfl) (accB_of (by first | rfl | (simp [nms, t6V]; done) | (simp [nms, t6V]; omega)) (by kernel_rfl))) ?_
           simp -implicitDefEqProofs only [sims.1, fx.1, tick_on, calleeK, List.getElem?_toArray, extractV, oneV, faddrK, nonnil, b_shr, b_shl, eq_self, beq_self_eq_true, fieldK, Option.bind_some, Option.map_some, Option.bind_none, Option.map_none, List.map_cons, List.map_nil, List.getD_cons_zero, List.getD_cons_succ, List.getD_nil, List.length_nil, List.length_cons, List.length_set, List.nil_append, List.cons_append, List.append_nil, List.getElem?_cons_zero, List.getElem?_cons_succ, List.getElem?_nil, List.set_cons_zero, List.set_cons_succ, Nat.reduceAdd, Nat.zero_add, Nat.add_zero, Nat.mul_one, Nat.mul_zero, Nat.zero_mul, Nat.reduceMul, Nat.reduceSub, Nat.reduceEqDiff, Nat.reduceLT, Nat.reduceLeDiff, Nat.reduceBEq, Nat.reduceBNe, Nat.succ_ne_self, reduceIte, if_true, if_false, ite_self, decide_true, decide_false, Bool.not_true, Bool.not_false, Bool.and_true, Bool.true_and, Bool.and_false, Bool.false_and, Bool.or_true, Bool.true_or, Bool.or_false, Bool.false_or, cond_true, cond_false, Int.reduceEq, Int.reduceLT, Int.reduceLE, Int.reduceNe, Int.reduceToNat, b53, bs40, happ])
        | skip
      refine ⟨(2, (E ++ [B.var 30 (spC 5 6)]).length + 1), by kernel_rfl, ⟨by dsimp only; omega, ex2, rfl, hkeep q _ ?_ (.inl hqq), fun _ => hat⟩, by dsimp only; omega⟩
      rw [List.getElem?_append_left (List.getElem?_eq_some_iff.1 hE).1]
      exact hE
    · have c1 : decide (((2 : Nat) : Int) < 2) = false := rfl
      simp -implicitDefEqProofs only [sims.1, fx.1, tick_on, calleeK, List.getElem?_toArray, extractV, oneV, faddrK, nonnil, b_shr, b_shl, eq_self, beq_self_eq_true, fieldK, Option.bind_some, Option.map_some, Option.bind_none, Option.map_none, List.map_cons, List.map_nil, List.getD_cons_zero, List.getD_cons_succ, List.getD_nil, List.length_nil, List.length_cons, List.length_set, List.nil_append, List.cons_append, List.append_nil, List.getElem?_cons_zero, List.getElem?_cons_succ, List.getElem?_nil, List.set_cons_zero, List.set_cons_succ, Nat.reduceAdd, Nat.zero_add, Nat.add_zero, Nat.mul_one, Nat.mul_zero, Nat.zero_mul, Nat.reduceMul, Nat.reduceSub, Nat.reduceEqDiff, Nat.reduceLT, Nat.reduceLeDiff, Nat.reduceBEq, Nat.reduceBNe, Nat.succ_ne_self, reduceIte, if_true, if_false, ite_self, decide_true, decide_false, Bool.not_true, Bool.not_false, Bool.and_true, Bool.true_and, Bool.and_false, Bool.false_and, Bool.or_true, Bool.true_or, Bool.or_false, Bool.false_or, cond_true, cond_false, Int.reduceEq, Int.reduceLT, Int.reduceLE, Int.reduceNe, Int.reduceToNat, c1]
      exact ⟨q2 + 4, b1 :: b2 :: b3 :: .dead :: E, rfl, hE2 (by decide)⟩
  · have hen : entryV (gtR gs3 :: .map [] [] 0 :: .map [] [] 0 :: .var 71 [.int .u64 n, .int .i64 a, .int .i64 0, .mp 0, .mp 1, .mp 2] :: b1 :: b2 :: b3 :: .iter 0 gs3.length (seen ++ [i]) gs3.length :: ex) (.ptr 7 0) = some (.tup [(gtE gs3[i]).1, (gtE gs3[i]).2]) := entry_gt rfl rfl hi
    have hi3 : i = 0 ∨ i = 1 ∨ i = 2 := by have : i < 3 := hi; omega
    have hst := fun it s p => st_end2 (pre := gtR gs3 :: .map [] [] 0 :: .map [] [] 0 :: .var 71 [.int .u64 n, .int .i64 a, .int .i64 0, .mp 0, .mp 1, .mp 2] :: b1 :: b2 :: b3 :: it :: ex) (b := .var 76 [.bool false, .bool false]) 30 s p
    have hst2 := fun it s p x y => st_bb (pre := gtR gs3 :: .map [] [] 0 :: .map [] [] 0 :: .var 71 [.int .u64 n, .int .i64 a, .int .i64 0, .mp 0, .mp 1, .mp 2] :: b1 :: b2 :: b3 :: it :: (ex ++ [.var 30 (spC s p)])) 76 x y
    simp only [List.cons_append, List.length_cons, len1] at hst hst2
    have hno : perms.contains (seen ++ [i]) = true := by simpa using perms_app seen hp0 i hi hs
    have hno : seen ++ [i] ∈ perms := perms_app seen hp0 i hi hs
    have hvl := perms_len seen hp0
    rcases hi3 with rfl | rfl | rfl
    · have hen : entryV (gtR gs3 :: .map [] [] 0 :: .map [] [] 0 :: .var 71 [.int .u64 n, .int .i64 a, .int .i64 0, .mp 0, .mp 1, .mp 2] :: b1 :: b2 :: b3 :: .iter 0 gs3.length (seen ++ [0]) gs3.length :: ex) (.ptr 7 0) = some (.tup [spA 3 9, .agg [.bool true, .bool false]]) := hen
      simp -implicitDefEqProofs only [sims.1, fx.1, tick_on, calleeK, List.getElem?_toArray, extractV, oneV, faddrK, nonnil, b_shr, b_shl, eq_self, beq_self_eq_true, fieldK, Option.bind_some, Option.map_some, Option.bind_none, Option.map_none, List.map_cons, List.map_nil, List.getD_cons_zero, List.getD_cons_succ, List.getD_nil, List.length_nil, List.length_cons, List.length_set, List.nil_append, List.cons_append, List.append_nil, List.getElem?_cons_zero, List.getElem?_cons_succ, List.getElem?_nil, List.set_cons_zero, List.set_cons_succ, Nat.reduceAdd, Nat.zero_add, Nat.add_zero, Nat.mul_one, Nat.mul_zero, Nat.zero_mul, Nat.reduceMul, Nat.reduceSub, Nat.reduceEqDiff, Nat.reduceLT, Nat.reduceLeDiff, Nat.reduceBEq, Nat.reduceBNe, Nat.succ_ne_self, reduceIte, if_true, if_false, ite_self, decide_true, decide_false, Bool.not_true, Bool.not_false, Bool.and_true, Bool.true_and, Bool.and_false, Bool.false_and, Bool.or_true, Bool.true_or, Bool.or_false, Bool.false_or, cond_true, cond_false, Int.reduceEq, Int.reduceLT, Int.reduceLE, Int.reduceNe, Int.reduceToNat, hen, hst, hst2, len1, at_mid, at_end1]
      have e0 : vis (seen ++ [0]) = vis seen := by rw [vis_app]; exact List.append_nil _
      refine ⟨(seen ++ [0], q), by dsimp only; rw [e0]; kernel_rfl, ⟨hno, _, rfl, fun h => ?_⟩, left_lt hi hs⟩
      dsimp only at h ⊢
      rw [e0] at h ⊢
      rw [List.append_assoc, List.getElem?_append_left ((List.getElem?_eq_some_iff.1 (hq h)).1)]
      exact hq h
    · have hen : entryV (gtR gs3 :: .map [] [] 0 :: .map [] [] 0 :: .var 71 [.int .u64 n, .int .i64 a, .int .i64 0, .mp 0, .mp 1, .mp 2] :: b1 :: b2 :: b3 :: .iter 0 gs3.length (seen ++ [1]) gs3.length :: ex) (.ptr 7 0) = some (.tup [spA 3 4, .agg [.bool false, .bool false]]) := hen
      obtain ⟨ex2, happ, hat⟩ := app92 (m0 := [gtR gs3, .map [] [] 0, .map [] [] 0, .var 71 [.int .u64 n, .int .i64 a, .int .i64 0, .mp 0, .mp 1, .mp 2], b1, b2, b3, .iter 0 gs3.length (seen ++ [1]) gs3.length]) (ex := ex ++ [.var 30 (spC 3 4)] ++ [.var 76 [.bool false, .bool false]]) (k := 8) (q := q) 3 4 rfl hvl (fun h => by rw [List.append_assoc, List.getElem?_append_left ((List.getElem?_eq_some_iff.1 (hq h)).1)]; exact hq h)
      simp only [List.cons_append, List.nil_append, List.length_cons, len1] at happ hat
      simp -implicitDefEqProofs only [sims.1, fx.1, tick_on, calleeK, List.getElem?_toArray, extractV, oneV, faddrK, nonnil, b_shr, b_shl, eq_self, beq_self_eq_true, fieldK, Option.bind_some, Option.map_some, Option.bind_none, Option.map_none, List.map_cons, List.map_nil, List.getD_cons_zero, List.getD_cons_succ, List.getD_nil, List.length_nil, List.length_cons, List.length_set, List.nil_append, List.cons_append, List.append_nil, List.getElem?_cons_zero, List.getElem?_cons_succ, List.getElem?_nil, List.set_cons_zero, List.set_cons_succ, Nat.reduceAdd, Nat.zero_add, Nat.add_zero, Nat.mul_one, Nat.mul_zero, Nat.zero_mul, Nat.reduceMul, Nat.reduceSub, Nat.reduceEqDiff, Nat.reduceLT, Nat.reduceLeDiff, Nat.reduceBEq, Nat.reduceBNe, Nat.succ_ne_self, reduceIte, if_true, if_false, ite_self, decide_true, decide_false, Bool.not_true, Bool.not_false, Bool.and_true, Bool.true_and, Bool.and_false, Bool.false_and, Bool.or_true, Bool.true_or, Bool.or_false, Bool.false_or, cond_true, cond_false, Int.reduceEq, Int.reduceLT, Int.reduceLE, Int.reduceNe, Int.reduceToNat, hen, hst, hst2, len1, at_mid, at_end1, bs92, happ, pk]
      have e1 : vis (seen ++ [1]) = vis seen ++ [(3, 4)] := vis_app _ _
      exact ⟨(seen ++ [1], ex.length + 1 + 1 + 1), by dsimp only; rw [e1]; kernel_rfl, ⟨hno, ex2, rfl, fun _ => by dsimp only; rw [e1]; exact hat⟩, left_lt hi hs⟩
    · have hen : entryV (gtR gs3 :: .map [] [] 0 :: .map [] [] 0 :: .var 71 [.int .u64 n, .int .i64 a, .int .i64 0, .mp 0, .mp 1, .mp 2] :: b1 :: b2 :: b3 :: .iter 0 gs3.length (seen ++ [2]) gs3.length :: ex) (.ptr 7 0) = some (.tup [spA 5 6, .agg [.bool false, .bool false]]) := hen
      obtain ⟨ex2, happ, hat⟩ := app92 (m0 := [gtR gs3, .map [] [] 0, .map [] [] 0, .var 71 [.int .u64 n, .int .i64 a, .int .i64 0, .mp 0, .mp 1, .mp 2], b1, b2, b3, .iter 0 gs3.length (seen ++ [2]) gs3.length]) (ex := ex ++ [.var 30 (spC 5 6)] ++ [.var 76 [.bool false, .bool false]]) (k := 8) (q := q) 5 6 rfl hvl (fun h => by rw [List.append_assoc, List.getElem?_append_left ((List.getElem?_eq_some_iff.1 (hq h)).1)]; exact hq h)
      simp only [List.cons_append, List.nil_append, List.length_cons, len1] at happ hat
      simp -implicitDefEqProofs only [sims.1, fx.1, tick_on, calleeK, List.getElem?_toArray, extractV, oneV, faddrK, nonnil, b_shr, b_shl, eq_self, beq_self_eq_true, fieldK, Option.bind_some, Option.map_some, Option.bind_none, Option.map_none, List.map_cons, List.map_nil, List.getD_cons_zero, List.getD_cons_succ, List.getD_nil, List.length_nil, List.length_cons, List.length_set, List.nil_append, List.cons_append, List.append_nil, List.getElem?_cons_zero, List.getElem?_cons_succ, List.getElem?_nil, List.set_cons_zero, List.set_cons_succ, Nat.reduceAdd, Nat.zero_add, Nat.add_zero, Nat.mul_one, Nat.mul_zero, Nat.zero_mul, Nat.reduceMul, Nat.reduceSub, Nat.reduceEqDiff, Nat.reduceLT, Nat.reduceLeDiff, Nat.reduceBEq, Nat.reduceBNe, Nat.succ_ne_self, reduceIte, if_true, if_false, ite_self, decide_true, decide_false, Bool.not_true, Bool.not_false, Bool.and_true, Bool.true_and, Bool.and_false, Bool.false_and, Bool.or_true, Bool.true_or, Bool.or_false, Bool.false_or, cond_true, cond_false, Int.reduceEq, Int.reduceLT, Int.reduceLE, Int.reduceNe, Int.reduceToNat, hen, hst, hst2, len1, at_mid, at_end1, bs92, happ, pk]
      have e1 : vis (seen ++ [2]) = vis seen ++ [(5, 6)] := vis_app _ _
      exact ⟨(seen ++ [2], ex.length + 1 + 1 + 1), by dsimp only; rw [e1]; kernel_rfl, ⟨hno, ex2, rfl, fun _ => by dsimp only; rw [e1]; exact hat⟩, left_lt hi hs⟩
end Go.Proofs.Ytpmbhjmlghoogaa
