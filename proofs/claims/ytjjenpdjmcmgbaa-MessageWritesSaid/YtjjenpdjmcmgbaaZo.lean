/- Numbers and lists put behind bytes, by the reference. No condition. -/
import Derived.Test.YtjjenpdjmcmgbaaZn
namespace Go.Proofs.Ytjjenpdjmcmgbaa
open Go Ab
set_option linter.unusedSimpArgs false
set_option linter.unusedVariables false
set_option maxRecDepth 20000

def bnd : Nat := 10000000000000
/-- The bytes' row stands there. -/
def Bf (m : Mem) (k : Nat) (l : List Nat) : Prop := l ≠ [] → m[k]? = some (rowB l)
/-- All but the bytes' row stays. -/
def Ke (k : Nat) (l : List Nat) (m m' : Mem) : Prop := m.length ≤ m'.length ∧ ∀ n b, (l ≠ [] → n ≠ k) → m[n]? = some b → m'[n]? = some b
def Fr' (m : Mem) (k : Nat) (l : List Nat) (k' : Nat) (l' : List Nat) : Prop := m.length ≤ k' ∨ (k' = k ∧ l' = l)
/-- What comes of a call that puts bytes behind others. -/
def PQ (k : Nat) (m : Mem) (l e : List Nat) (r : CR) : Prop := ∃ m' k', r = .ret (buf k' (l ++ e)) m' ∧ Bf m' k' (l ++ e) ∧ Ke k l m m' ∧ Fr' m k l k' (l ++ e)
theorem Ke.refl (k : Nat) (l : List Nat) (m : Mem) : Ke k l m m := ⟨Nat.le_refl _, fun _ _ _ h => h⟩
theorem Ke.trans {k k' : Nat} {l l' : List Nat} {m m' m'' : Mem} (h : Ke k l m m') (hk : Fr' m k l k' l') (g : Ke k' l' m' m'') : Ke k l m m'' := by
  refine ⟨Nat.le_trans h.1 g.1, fun n b hn hm => g.2 n b (fun hl e => ?_) (h.2 n b hn hm)⟩
  have hlt := (List.getElem?_eq_some_iff.1 hm).1
  rcases hk with hk | ⟨rfl, rfl⟩
  · omega
  · exact hn hl e
theorem Fr'.trans {m m' : Mem} {k k' k'' : Nat} {l l' l'' : List Nat} (hl : m.length ≤ m'.length) (h : Fr' m k l k' l') (g : Fr' m' k' l' k'' l'') : Fr' m k l k'' l'' := by
  rcases g with g | ⟨rfl, rfl⟩
  · exact .inl (by omega)
  · exact h
theorem Ke.app (k : Nat) (l : List Nat) (m ex : Mem) : Ke k l m (m ++ ex) := ⟨by simp, fun n b _ hm => by rw [List.getElem?_append_left (List.getElem?_eq_some_iff.1 hm).1]; exact hm⟩
theorem Bf.app {m : Mem} {k : Nat} {l : List Nat} (h : Bf m k l) (ex : Mem) : Bf (m ++ ex) k l := fun hl => by rw [List.getElem?_append_left (List.getElem?_eq_some_iff.1 (h hl)).1]; exact h hl
/-- A call that puts bytes behind. -/
theorem callD_p {f : FuncId} {vs : List V} {m : Mem} {K Kp : V → Mem → Prop} {k : Nat} {l e : List Nat} (h : Snd Try.prog f vs m (PQ k m l e)) (he : enterable Try.prog f = true) (hr : ∀ k' m1, Bf m1 k' (l ++ e) → Ke k l m m1 → Fr' m k l k' (l ++ e) → K (buf k' (l ++ e)) m1) : callD Try.prog f vs m K Kp := by
  refine callD_q h he ?_ ?_
  · rintro v m1 ⟨m', k', h1, h2, h3, h4⟩
    cases h1; exact hr _ _ h2 h3 h4
  · rintro v m1 ⟨m', k', h1, _⟩
    cases h1
/-- Bytes put behind others. -/
theorem apL {m : Mem} {l new : List Nat} {k : Nat} {x : V} (hx : contV m 1 x = some (new.map byC)) (hm : Bf m k l) (hb : l.length + new.length ≤ bnd) :
    ∃ m' k', appendA Try.prog 34 34 (buf k l) x m = some (buf k' (l ++ new), m') ∧ Bf m' k' (l ++ new) ∧ Ke k l m m' ∧ Fr' m k l k' (l ++ new) ∧ (new ≠ [] → k' = m.length ∧ m'.length = m.length + 1) := by
  unfold bnd at hb
  cases l with
  | nil =>
    cases new with
    | nil => exact ⟨m, k, append_none un34 ze5 isl34 hx, fun h => absurd rfl h, Ke.refl _ _ _, .inr ⟨rfl, rfl⟩, fun h => absurd rfl h⟩
    | cons b r =>
      have h1 := append_nil un34 ze5 isl34 hx (by simp) (by simp at hb ⊢; omega) (by simp at hb ⊢; omega)
      refine ⟨m ++ [rowB (b :: r)], m.length, ?_, fun _ => ?_, Ke.app _ _ _ _, .inl (Nat.le_refl _), fun _ => ⟨rfl, by simp⟩⟩
      · simpa [buf, rowB] using h1
      · simp
  | cons a r =>
    have h1 := append_sl (len := (a :: r).length) un34 ze5 isl34 hx (hm (by simp)) (by simp) (by simp at hb ⊢; omega) (by simp at hb ⊢; omega)
    refine ⟨m.set k .dead ++ [rowB (a :: r ++ new)], m.length, ?_, fun _ => ?_, ⟨by simp, fun n b hn hm => ?_⟩, .inl (Nat.le_refl _), fun _ => ⟨rfl, by simp⟩⟩
    · rw [buf_cons (by simp), buf_cons (by simp), h1]
      simp [rowB]
    · rw [List.getElem?_append_right (by simp)]; simp
    · have hlt := (List.getElem?_eq_some_iff.1 hm).1
      rw [List.getElem?_append_left (by simpa using hlt), List.getElem?_set_ne (fun e => hn (by simp) e.symm)]
      exact hm
def loop32 (x n : Nat) (l : List Nat) (s : Nat × Nat) : List (Nat × V) := [(1, .int .u64 (x : Int)), (7, .int .i64 ((n : Int) - 1 - (s.1 : Int))), (0, buf s.2 (l ++ putB x n s.1))]
/-- The same, where the row is told by its number. -/
def PX (k : Nat) (m : Mem) (l e : List Nat) (k' : Nat) (r : CR) : Prop := ∃ m', r = .ret (buf k' (l ++ e)) m' ∧ Bf m' k' (l ++ e) ∧ Ke k l m m'
set_option maxHeartbeats 1000000 in
theorem snd32x {m : Mem} {k : Nat} {l : List Nat} {x n : Nat} (hm : Bf m k l) (h0 : 0 < n) (hn : n ≤ 8) (hb : l.length + 8 ≤ bnd) : Snd Try.prog 32 [buf k l, .int .u64 (x : Int), .int .i64 (n : Int)] m (PX k m l (enc x n) (m.length + 2 * n - 1)) := by
  refine Snd_of_W fol rfl rfl (by kernel_rfl) (by kernel_rfl) ?_
  have w0 := wz ((n : Int) - 1) (by omega) (by omega)
  simp -implicitDefEqProofs only [sims.1, fx.1, keeps.1, tick_on, calleeK, extractV, oneV, faddrK, nonnil, b_shr, b_shl, fieldK, Nat.reduceAdd, Nat.reduceMul, Nat.reduceSub, Nat.reduceEqDiff, Nat.reduceLT, Nat.reduceLeDiff, Nat.reduceBEq, Nat.reduceBNe, reduceIte, Int.reduceEq, Int.reduceLT, Int.reduceLE, Int.reduceNe, Int.reduceToNat, w0]
  refine W_loopM (loop32 x n l) (fun s M => s.1 ≤ n ∧ Bf M s.2 (l ++ putB x n s.1) ∧ Ke k l m M ∧ M.length = m.length + 2 * s.1 ∧ ((s.1 = 0 ∧ s.2 = k) ∨ (0 < s.1 ∧ s.2 = m.length + 2 * s.1 - 1))) (fun s => n + 1 - s.1) (0, k) (Eq.trans (b := [(1, .int .u64 (x : Int)), (7, .int .i64 ((n : Int) - 1)), (0, buf k l)]) (by kernel_rfl) (by simp [loop32, putB])) ⟨by omega, by simpa [putB] using hm, Ke.refl _ _ _, rfl, .inl ⟨rfl, rfl⟩⟩ ?_
  rintro ⟨j, k1⟩ M ⟨h1, h2, h3, h5, h6⟩
  simp only at h1 h2 h3 h5 h6
  have h4 : Fr' m k l k1 (l ++ putB x n j) := by
    rcases h6 with h6 | h6
    · exact .inr ⟨h6.2, by rw [h6.1]; simp [putB]⟩
    · exact .inl (by omega)
  rcases Nat.lt_or_ge j n with hj | hj
  · have hidx : (n : Int) - 1 - (j : Int) = ((n - 1 - j : Nat) : Int) := by omega
    have w1 := wz (8 * ((n - 1 - j : Nat) : Int)) (by omega) (by omega)
    have e1 : 8 * ((n - 1 - j : Nat) : Int) = ((8 * (n - 1 - j) : Nat) : Int) := by omega
    have w2 := wrapU (8 * (n - 1 - j)) (by omega)
    have s1 := shrW x (8 * (n - 1 - j)) (by omega)
    have n1 : ¬ (((8 * (n - 1 - j) : Nat) : Int) < 0) := by omega
    have w3 := wz8 (x / 2 ^ (8 * (n - 1 - j)))
    have w4 := wz (((n - 1 - j : Nat) : Int) - 1) (by omega) (by omega)
    have e4 : ((n - 1 - j : Nat) : Int) - 1 = (n : Int) - 1 - ((j + 1 : Nat) : Int) := by omega
    rw [e1] at w1
    have w5 := w4.trans e4
    clear w4 e4
    simp -implicitDefEqProofs only [sims.1, fx.1, keeps.1, tick_on, calleeK, extractV, oneV, faddrK, nonnil, b_shr, b_shl, fieldK, Nat.reduceAdd, Nat.reduceMul, Nat.reduceSub, Nat.reduceEqDiff, Nat.reduceLT, Nat.reduceLeDiff, Nat.reduceBEq, Nat.reduceBNe, reduceIte, Int.reduceEq, Int.reduceLT, Int.reduceLE, Int.reduceNe, Int.reduceToNat, loop32, hidx, geI, e1, w1, w2, n1, Int.toNat_natCast, s1, w3, bs34]
    obtain ⟨m', k', a1, a2, a3, a4, a5⟩ := apL (m := M ++ [rowB [x / 2 ^ (8 * (n - 1 - j)) % 256]]) (new := [x / 2 ^ (8 * (n - 1 - j)) % 256]) (x := .sl 1 M.length 0 1) (show contV _ 1 (.sl 1 M.length 0 [x / 2 ^ (8 * (n - 1 - j)) % 256].length) = _ from cont_r (by simp)) (h2.app _) (by rw [List.length_append, putB_len]; simp; omega)
    rw [a1]
    obtain ⟨a5, a6⟩ := a5 (by simp)
    simp only [List.length_append, List.length_cons, List.length_nil] at a5 a6
    simp -implicitDefEqProofs only [sims.1, fx.1, keeps.1, tick_on, calleeK, extractV, oneV, faddrK, nonnil, b_shr, b_shl, fieldK, Nat.reduceAdd, Nat.reduceMul, Nat.reduceSub, Nat.reduceEqDiff, Nat.reduceLT, Nat.reduceLeDiff, Nat.reduceBEq, Nat.reduceBNe, reduceIte, Int.reduceEq, Int.reduceLT, Int.reduceLE, Int.reduceNe, Int.reduceToNat, w5]
    refine ⟨(j + 1, k'), ?_, ⟨by simp only; omega, ?_, ?_, by simp only; omega, .inr ⟨by simp only; omega, by simp only; omega⟩⟩, by simp only; omega⟩
    · rw [show loop32 x n l (j + 1, k') = [(1, .int .u64 (x : Int)), (7, .int .i64 ((n : Int) - 1 - ((j + 1 : Nat) : Int))), (0, buf k' (l ++ putB x n j ++ [x / 2 ^ (8 * (n - 1 - j)) % 256]))] from by simp only [loop32, putB_snoc, List.append_assoc]]
      kernel_rfl
    · show Bf m' k' (l ++ putB x n (j + 1))
      rw [putB_snoc, ← List.append_assoc]
      exact a2
    · exact (h3.trans h4 (Ke.app k1 _ M _)).trans h4 a3
  · obtain rfl : j = n := by omega
    have hidx : (j : Int) - 1 - (j : Int) = -1 := by omega
    have c1 : decide ((0 : Int) ≤ -1) = false := rfl
    simp -implicitDefEqProofs only [sims.1, fx.1, keeps.1, tick_on, calleeK, extractV, oneV, faddrK, nonnil, b_shr, b_shl, fieldK, Nat.reduceAdd, Nat.reduceMul, Nat.reduceSub, Nat.reduceEqDiff, Nat.reduceLT, Nat.reduceLeDiff, Nat.reduceBEq, Nat.reduceBNe, reduceIte, Int.reduceEq, Int.reduceLT, Int.reduceLE, Int.reduceNe, Int.reduceToNat, loop32, hidx, c1]
    obtain rfl : k1 = m.length + 2 * j - 1 := by omega
    exact ⟨M, rfl, h2, h3⟩
theorem snd32 {m : Mem} {k : Nat} {l : List Nat} {x n : Nat} (hm : Bf m k l) (h0 : 0 < n) (hn : n ≤ 8) (hb : l.length + 8 ≤ bnd) : Snd Try.prog 32 [buf k l, .int .u64 (x : Int), .int .i64 (n : Int)] m (PQ k m l (enc x n)) :=
  (snd32x hm h0 hn hb).mono fun r ⟨m', h1, h2, h3⟩ => ⟨m', _, h1, h2, h3, .inl (by omega)⟩
end Go.Proofs.Ytjjenpdjmcmgbaa
