/- Numbers that the coder reads. No condition. -/
import Derived.Test.YtjjenpdjmcmgbaaQXa
namespace Go.Proofs.Ytjjenpdjmcmgbaa
open Go Ab
set_option linter.unusedSimpArgs false
set_option linter.unusedVariables false
set_option maxRecDepth 20000
/-- The number that these bytes tell, the greatest first. -/
def beV (l : List Nat) : Nat := l.foldl (fun x b => x * 256 + b) 0
theorem beV_snoc (l : List Nat) (b : Nat) : beV (l ++ [b]) = beV l * 256 + b := by simp [beV]
theorem beV_take {l : List Nat} {j : Nat} (h : j < l.length) : beV (l.take (j + 1)) = beV (l.take j) * 256 + l[j] := by
  rw [List.take_add_one, List.getElem?_eq_getElem h]
  exact beV_snoc _ _
theorem beV_lt {l : List Nat} (hb : ∀ b ∈ l, b < 256) : ∀ j, beV (l.take j) < 256 ^ j
  | 0 => by simp [beV]
  | j + 1 => by
    have ih := beV_lt hb j
    rcases Nat.lt_or_ge j l.length with h | h
    · rw [beV_take h, Nat.pow_succ]
      have := hb _ (List.getElem_mem h)
      omega
    · rw [List.take_of_length_le (by omega), Nat.pow_succ]
      rw [List.take_of_length_le h] at ih
      omega
theorem or8 (x b : Nat) (hx : x < 72057594037927936) (hb : b < 256) : bits .or .u64 ((x * 256 : Nat) : Int) (b : Int) = ((x * 256 + b : Nat) : Int) := by
  rw [bits_or_u64_nat _ _ (by omega) (by omega)]
  have := Nat.shiftLeft_add_eq_or_of_lt (i := 8) (b := b) (by simpa using hb) x
  rw [Nat.shiftLeft_eq] at this
  rw [← this]
theorem shl8 (x : Nat) (hx : x < 72057594037927936) : IntKind.u64.wrap ((x : Int) * 2 ^ min 8 IntKind.u64.bits) = ((x * 256 : Nat) : Int) := by
  simp [IntKind.wrap, IntKind.bits, IntKind.signed]; omega
theorem in5 : ∃ i, Try.prog.info? 5 = some i ∧ i.size = 1 := ⟨(Try.prog.info? 5).get rfl, rfl, by kernel_rfl⟩
theorem sl34hi {l : List Nat} {n : Nat} (h : n ≤ l.length) : sliceV Try.prog 34 (byV l) none (some (.int .i64 (n : Int))) = some (byV (l.take n)) := by
  obtain ⟨i, h1, h2⟩ := in5
  simp only [sliceV, byV, un34, h1, h2, bndV, List.length_map]
  simp only [show Nat.beq 1 1 = true from rfl, cond_true]
  rw [if_pos ⟨by omega, by omega, by omega⟩]
  simp [List.map_take]
theorem sl34lo {l : List Nat} {n : Nat} (h : n ≤ l.length) : sliceV Try.prog 34 (byV l) (some (.int .i64 (n : Int))) none = some (byV (l.drop n)) := by
  obtain ⟨i, h1, h2⟩ := in5
  simp only [sliceV, byV, un34, h1, h2, bndV, List.length_map]
  simp only [show Nat.beq 1 1 = true from rfl, cond_true]
  rw [if_pos ⟨by omega, by omega, by omega⟩]
  simp only [Int.toNat_natCast]
  rw [← List.map_drop, List.take_of_length_le (by simp)]
/-- The coder reads: these bytes are left. -/
def Cr (m : Mem) (c : Nat) (l : List Nat) : Prop := m[c]? = some (.var 71 [byV l, .bool true])
/-- All stays but the coder and the target. -/
def K2 (c q : Nat) (m m' : Mem) : Prop := m.length ≤ m'.length ∧ ∀ k b, k ≠ c → k ≠ q → m[k]? = some b → m'[k]? = some b
theorem K2.refl (c q : Nat) (m : Mem) : K2 c q m m := ⟨Nat.le_refl _, fun _ _ _ _ h => h⟩
theorem K2.trans {c q : Nat} {m m' m'' : Mem} (h : K2 c q m m') (g : K2 c q m' m'') : K2 c q m m'' := ⟨Nat.le_trans h.1 g.1, fun k b h1 h2 h3 => g.2 k b h1 h2 (h.2 k b h1 h2 h3)⟩
def wrongV : V := .ifc 62 (.agg [])
def RN (c q ty o n : Nat) (l : List V) (rest : List Nat) (m : Mem) (r : CR) : Prop :=
  (n ≤ rest.length ∧ ∃ m', r = .ret (.tup []) m' ∧ K2 c q m m' ∧ Cr m' c (rest.drop n) ∧ m'[q]? = some (.var ty (l.set o (.int .u64 (beV (rest.take n) : Int))))) ∨ (rest.length < n ∧ ∃ m', r = .pan wrongV m' ∧ K2 c q m m' ∧ m'[q]? = some (.var ty l))
def loop31r (c q o n : Nat) (s : List Nat) (j : Nat) : List (Nat × V) := [(30, .int .i64 (n : Int)), (29, byV s), (1, .ptr q o), (31, .int .i64 (j : Int)), (0, .ptr c 0), (2, .int .i64 (n : Int))]
set_option maxHeartbeats 1000000 in
theorem snd31r {m : Mem} {c q ty o n : Nat} {l : List V} {rest : List Nat} {a : Int} (hc : Cr m c rest) (hq : m[q]? = some (.var ty l)) (hqc : q ≠ c) (ho : l[o]? = some (.int .u64 a)) (hb : ∀ b ∈ rest, b < 256) (hL : rest.length < 281474976710656) (h0 : 0 < n) (hn : n ≤ 8) :
    Snd Try.prog 31 [.ptr c 0, .ptr q o, .int .i64 (n : Int)] m (RN c q ty o n l rest m) := by
  refine Snd_of_W fol rfl rfl (by kernel_rfl) (by kernel_rfl) ?_
  have hol : o < l.length := (List.getElem?_eq_some_iff.1 ho).1
  have hc' : m[c]? = some (.var 71 [byV rest, .bool true]) := hc
  have lnr : ∀ M, lenV Try.prog M 34 (byV rest) = some (.int .i64 (rest.length : Int)) := fun M => by unfold byV; rw [lni34, List.length_map]
  have hnn : ∀ k o, nonnil (.ptr k o) = true := fun _ _ => rfl
  have lt1 : decide ((rest.length : Int) < (n : Int)) = decide (rest.length < n) := by rw [Bool.eq_iff_iff]; simp
  cases e : decide (rest.length < n)
  rotate_left
  · have b62 : buildV Try.prog 62 [] = some (.agg []) := by kernel_rfl
    simp -implicitDefEqProofs only [sims.1, fx.1, keeps.1, tick_on, calleeK, extractV, oneV, faddrK, nonnil, b_shr, b_shl, fieldK, Nat.reduceAdd, Nat.reduceMul, Nat.reduceSub, Nat.reduceEqDiff, Nat.reduceLT, Nat.reduceLeDiff, Nat.reduceBEq, Nat.reduceBNe, reduceIte, Int.reduceEq, Int.reduceLT, Int.reduceLE, Int.reduceNe, Int.reduceToNat, hc', hnn, lnr, lt1, e, b62, co62]
    exact .inr ⟨of_decide_eq_true e, m, rfl, K2.refl _ _ _, hq⟩
  have hle : n ≤ rest.length := by have := of_decide_eq_false e; omega
  have hM : (m.set q (.var ty (l.set o (.int .u64 0))))[c]? = some (.var 71 [byV rest, .bool true]) := by rw [List.getElem?_set_ne hqc]; exact hc'
  have lns : ∀ M, lenV Try.prog M 34 (byV (rest.take n)) = some (.int .i64 (n : Int)) := fun M => by unfold byV; rw [lni34, List.length_map, List.length_take, Nat.min_eq_left hle]
  have hlen : (rest.take n).length = n := by rw [List.length_take, Nat.min_eq_left hle]
  simp -implicitDefEqProofs only [sims.1, fx.1, keeps.1, tick_on, calleeK, extractV, oneV, faddrK, nonnil, b_shr, b_shl, fieldK, Nat.reduceAdd, Nat.reduceMul, Nat.reduceSub, Nat.reduceEqDiff, Nat.reduceLT, Nat.reduceLeDiff, Nat.reduceBEq, Nat.reduceBNe, reduceIte, Int.reduceEq, Int.reduceLT, Int.reduceLE, Int.reduceNe, Int.reduceToNat, hc', hM, hnn, lnr, lt1, e, hq, hol, sl34hi hle, lns]
  refine W_loopM (loop31r c q o n (rest.take n)) (fun j M => j ≤ n ∧ K2 c q m M ∧ M[c]? = some (.var 71 [byV rest, .bool true]) ∧ M[q]? = some (.var ty (l.set o (.int .u64 (beV (rest.take j) : Int))))) (fun j => n + 1 - j) 0
    (Eq.trans (b := [(30, .int .i64 (n : Int)), (29, byV (rest.take n)), (1, .ptr q o), (31, .int .i64 0), (0, .ptr c 0), (2, .int .i64 (n : Int))]) (by kernel_rfl) (by simp [loop31r])) ⟨by omega, ⟨by simp, fun k b h1 h2 h3 => by rw [List.getElem?_set_ne fun h => h2 h.symm]; exact h3⟩, hM, by rw [List.getElem?_set_self (List.getElem?_eq_some_iff.1 hq).1]; rfl⟩ ?_
  rintro j M ⟨h1, h2, h3, h4⟩
  rcases Nat.lt_or_ge j n with hj | hj
  · have c1 : decide ((j : Int) < (n : Int)) = true := by simpa using hj
    have hr : j < rest.length := by omega
    have hjl : j < (rest.take n).length := by omega
    have gt : (rest.take n)[j] = rest[j] := List.getElem_take
    have ia : ∀ {kk : IntKind}, iaddrS 1 (byV (rest.take n)) (.int kk (j : Int)) = some (.ip (byC rest[j])) := fun {kk} => iaddrS_isl (by simp [hj, hr])
    have hbj : rest[j] < 256 := hb _ (List.getElem_mem hr)
    have hv : beV (rest.take j) < 72057594037927936 := Nat.lt_of_lt_of_le (beV_lt hb j) (by
      have : 256 ^ j ≤ 256 ^ 7 := Nat.pow_le_pow_right (by omega) (by omega)
      exact this)
    have w1 := shl8 _ hv
    have w2 := or8 _ _ hv hbj
    have w3 := wrapU rest[j] (by omega)
    have w4 : IntKind.i64.wrap ((j : Int) + 1) = ((j + 1 : Nat) : Int) := by rw [IntKind.wrap_i64]; omega
    have b0 : (byC rest[j])[0]? = some (.int .u8 (rest[j] : Int)) := rfl
    have sl : ∀ v : V, (l.set o v).length = l.length := fun v => by simp
    have ss : ∀ u v : V, (l.set o u).set o v = l.set o v := fun u v => by simp
    have sg : ∀ v : V, (l.set o v)[o]? = some v := fun v => List.getElem?_set_self hol
    have hqM := (List.getElem?_eq_some_iff.1 h4).1
    simp -implicitDefEqProofs only [sims.1, fx.1, keeps.1, tick_on, calleeK, extractV, oneV, faddrK, nonnil, b_shr, b_shl, fieldK, Nat.reduceAdd, Nat.reduceMul, Nat.reduceSub, Nat.reduceEqDiff, Nat.reduceLT, Nat.reduceLeDiff, Nat.reduceBEq, Nat.reduceBNe, reduceIte, Int.reduceEq, Int.reduceLT, Int.reduceLE, Int.reduceNe, Int.reduceToNat, loop31r, hlen, c1, ia, b0, h3, h4, hol, hnn, sl, ss, sg, w1, w2, w3, w4]
    refine ⟨j + 1, by kernel_rfl, ⟨by omega, h2.trans ⟨by simp, fun k b g1 g2 g3 => by rw [List.getElem?_set_ne fun h => g2 h.symm]; exact g3⟩, by rw [List.getElem?_set_ne hqc]; exact h3, ?_⟩, by omega⟩
    rw [List.getElem?_set_self hqM, beV_take hr]
  · obtain rfl : j = n := by omega
    have c1 : decide ((j : Int) < (j : Int)) = false := by simp
    have hcM := (List.getElem?_eq_some_iff.1 h3).1
    have sB : storeK 1 M (.ptr c 0) (byV (rest.drop j)) = some (M.set c (.var 71 [byV (rest.drop j), .bool true])) := by
      rw [storeK_one rfl, h3]
      rfl
    simp -implicitDefEqProofs only [sims.1, fx.1, keeps.1, tick_on, calleeK, extractV, oneV, faddrK, nonnil, b_shr, b_shl, fieldK, Nat.reduceAdd, Nat.reduceMul, Nat.reduceSub, Nat.reduceEqDiff, Nat.reduceLT, Nat.reduceLeDiff, Nat.reduceBEq, Nat.reduceBNe, reduceIte, Int.reduceEq, Int.reduceLT, Int.reduceLE, Int.reduceNe, Int.reduceToNat, loop31r, hlen, c1, h3, hnn, sl34lo hle, lns, sB]
    refine .inl ⟨hle, _, rfl, h2.trans ⟨by simp, fun k b g1 g2 g3 => by rw [List.getElem?_set_ne fun h => g1 h.symm]; exact g3⟩, ?_, ?_⟩
    · unfold Cr
      rw [List.getElem?_set_self hcM]
    · rw [List.getElem?_set_ne fun h => hqc h.symm]
      exact h4
end Go.Proofs.Ytjjenpdjmcmgbaa
