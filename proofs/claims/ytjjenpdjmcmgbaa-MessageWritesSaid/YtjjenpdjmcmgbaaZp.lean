/- Ports and matches put behind bytes, by the reference. No condition. -/
import Derived.Test.YtjjenpdjmcmgbaaZo
namespace Go.Proofs.Ytjjenpdjmcmgbaa
open Go Ab
set_option linter.unusedSimpArgs false
set_option linter.unusedVariables false
set_option maxRecDepth 20000

theorem ans35 (b : Bool) : Ans Try.prog 35 [.bool b] (.int .u64 (b01 b : Int)) := by
  refine Snd_of_W fol rfl rfl (by kernel_rfl) (by kernel_rfl) ?_
  cases b
  all_goals
    simp -implicitDefEqProofs only [sims.1, fx.1, keeps.1, tick_on, calleeK, extractV, oneV, faddrK, nonnil, b_shr, b_shl, fieldK, Nat.reduceAdd, Nat.reduceMul, Nat.reduceSub, Nat.reduceEqDiff, Nat.reduceLT, Nat.reduceLeDiff, Nat.reduceBEq, Nat.reduceBNe, reduceIte, Int.reduceEq, Int.reduceLT, Int.reduceLE, Int.reduceNe, Int.reduceToNat]
    exact ans_ret rfl
theorem ans61 (j : Nat) (h : j < 11) : Ans Try.prog 61 [.int .i8 (j : Int)] (.int .i64 (sz j : Int)) := by
  refine Snd_of_W fol rfl rfl (by kernel_rfl) (by kernel_rfl) ?_
  simp -implicitDefEqProofs only [sims.1, fx.1, keeps.1, tick_on, calleeK, extractV, oneV, faddrK, nonnil, b_shr, b_shl, fieldK, Nat.reduceAdd, Nat.reduceMul, Nat.reduceSub, Nat.reduceEqDiff, Nat.reduceLT, Nat.reduceLeDiff, Nat.reduceBEq, Nat.reduceBNe, reduceIte, Int.reduceEq, Int.reduceLT, Int.reduceLE, Int.reduceNe, Int.reduceToNat]
  refine callD_ans (ans74 j h) en74 rfl rfl ?_
  have q1 := szq h
  simp -implicitDefEqProofs only [sims.1, fx.1, keeps.1, tick_on, calleeK, extractV, oneV, faddrK, nonnil, b_shr, b_shl, fieldK, Nat.reduceAdd, Nat.reduceMul, Nat.reduceSub, Nat.reduceEqDiff, Nat.reduceLT, Nat.reduceLeDiff, Nat.reduceBEq, Nat.reduceBNe, reduceIte, Int.reduceEq, Int.reduceLT, Int.reduceLE, Int.reduceNe, Int.reduceToNat, q1]
  exact ans_ret rfl
theorem po0 (y : Nat) : (poC y)[0]? = some (.int .u16 (y : Int)) := rfl
def loop33 (xs l : List Nat) (s : Nat × Nat) : List (Nat × V) := [(1, poV xs), (5, .int .i64 (s.1 : Int)), (0, buf s.2 (l ++ (enc xs.length 2 ++ (xs.take s.1).flatMap fun x => enc x 2)))]
theorem encP_len (xs : List Nat) : (encP xs).length = 2 + 2 * xs.length := by
  have : ∀ l : List Nat, (l.flatMap fun x => enc x 2).length = 2 * l.length := by
    intro l
    induction l with
    | nil => rfl
    | cons a r ih => simp only [List.flatMap_cons, List.length_append, enc_len, ih, List.length_cons]; omega
  rw [encP, List.length_append, enc_len, this]
set_option maxHeartbeats 1000000 in
theorem snd33 {m : Mem} {k : Nat} {l xs : List Nat} (hm : Bf m k l) (hx : xs.length < lim ∧ ∀ p ∈ xs, p < 65536) (hb : l.length + (encP xs).length + 8 ≤ bnd) : Snd Try.prog 33 [buf k l, poV xs] m (PQ k m l (encP xs)) := by
  refine Snd_of_W fol rfl rfl (by kernel_rfl) (by kernel_rfl) ?_
  have hxl : xs.length < 281474976710656 := hx.1
  have w0 := wrapU xs.length (by omega)
  have ln : ∀ M, lenV Try.prog M 33 (poV xs) = some (.int .i64 (xs.length : Int)) := fun M => by unfold poV; rw [lni33, List.length_map]
  rw [encP_len] at hb
  simp -implicitDefEqProofs only [sims.1, fx.1, keeps.1, tick_on, calleeK, extractV, oneV, faddrK, nonnil, b_shr, b_shl, fieldK, Nat.reduceAdd, Nat.reduceMul, Nat.reduceSub, Nat.reduceEqDiff, Nat.reduceLT, Nat.reduceLeDiff, Nat.reduceBEq, Nat.reduceBNe, reduceIte, Int.reduceEq, Int.reduceLT, Int.reduceLE, Int.reduceNe, Int.reduceToNat, ln, w0]
  refine callD_p (snd32 (n := 2) hm (by omega) (by omega) (by omega)) en32 ?_
  intro k1 m1 b1 e1 f1
  simp -implicitDefEqProofs only [sims.1, fx.1, keeps.1, tick_on, calleeK, extractV, oneV, faddrK, nonnil, b_shr, b_shl, fieldK, Nat.reduceAdd, Nat.reduceMul, Nat.reduceSub, Nat.reduceEqDiff, Nat.reduceLT, Nat.reduceLeDiff, Nat.reduceBEq, Nat.reduceBNe, reduceIte, Int.reduceEq, Int.reduceLT, Int.reduceLE, Int.reduceNe, Int.reduceToNat]
  refine W_loopM (loop33 xs l) (fun s M => s.1 ≤ xs.length ∧ Bf M s.2 (l ++ (enc xs.length 2 ++ (xs.take s.1).flatMap fun x => enc x 2)) ∧ Ke k l m M ∧ Fr' m k l s.2 (l ++ (enc xs.length 2 ++ (xs.take s.1).flatMap fun x => enc x 2))) (fun s => xs.length + 1 - s.1) (0, k1) (Eq.trans (b := [(1, poV xs), (5, .int .i64 0), (0, buf k1 (l ++ enc xs.length 2))]) (by kernel_rfl) (by simp [loop33])) ⟨by simp, by simpa using b1, e1, by simpa using f1⟩ ?_
  rintro ⟨j, k2⟩ M ⟨h1, h2, h3, h4⟩
  simp only at h1 h2 h3 h4
  rcases Nat.lt_or_ge j xs.length with hj | hj
  · have c1 : decide (j < xs.length) = true := by simpa using hj
    have w1 := add1N j (by omega)
    have hxj := hx.2 _ (List.getElem_mem hj)
    have w2 := wrapU xs[j] (by omega)
    have ia : ∀ {kk : IntKind}, iaddrS 1 (poV xs) (.int kk (j : Int)) = some (.ip (poC xs[j])) := fun {kk} => iaddrS_isl (by simp [hj])
    simp -implicitDefEqProofs only [sims.1, fx.1, keeps.1, tick_on, calleeK, extractV, oneV, faddrK, nonnil, b_shr, b_shl, fieldK, Nat.reduceAdd, Nat.reduceMul, Nat.reduceSub, Nat.reduceEqDiff, Nat.reduceLT, Nat.reduceLeDiff, Nat.reduceBEq, Nat.reduceBNe, reduceIte, Int.reduceEq, Int.reduceLT, Int.reduceLE, Int.reduceNe, Int.reduceToNat, loop33, ltNat, c1, ln, ia, po0, w2]
    have hfl := flat_le (g := fun x => enc x 2) xs j
    have htot : (xs.flatMap fun x => enc x 2).length = 2 * xs.length := by have := encP_len xs; rw [encP, List.length_append, enc_len] at this; omega
    refine callD_p (snd32 (n := 2) h2 (by omega) (by omega) (by simp only [List.length_append, enc_len]; omega)) en32 ?_
    intro k3 m3 b3 e3 f3
    simp -implicitDefEqProofs only [sims.1, fx.1, keeps.1, tick_on, calleeK, extractV, oneV, faddrK, nonnil, b_shr, b_shl, fieldK, Nat.reduceAdd, Nat.reduceMul, Nat.reduceSub, Nat.reduceEqDiff, Nat.reduceLT, Nat.reduceLeDiff, Nat.reduceBEq, Nat.reduceBNe, reduceIte, Int.reduceEq, Int.reduceLT, Int.reduceLE, Int.reduceNe, Int.reduceToNat, w1]
    have hn : l ++ (enc xs.length 2 ++ (xs.take j).flatMap fun x => enc x 2) ++ enc xs[j] 2 = l ++ (enc xs.length 2 ++ (xs.take (j + 1)).flatMap fun x => enc x 2) := by rw [flat_take hj]; simp only [List.append_assoc]
    rw [hn] at b3 f3 ⊢
    exact ⟨(j + 1, k3), by kernel_rfl, ⟨hj, b3, h3.trans h4 e3, Fr'.trans h3.1 h4 f3⟩, by simp only; omega⟩
  · obtain rfl : j = xs.length := by omega
    have c1 : decide (xs.length < xs.length) = false := by simp
    simp -implicitDefEqProofs only [sims.1, fx.1, keeps.1, tick_on, calleeK, extractV, oneV, faddrK, nonnil, b_shr, b_shl, fieldK, Nat.reduceAdd, Nat.reduceMul, Nat.reduceSub, Nat.reduceEqDiff, Nat.reduceLT, Nat.reduceLeDiff, Nat.reduceBEq, Nat.reduceBNe, reduceIte, Int.reduceEq, Int.reduceLT, Int.reduceLE, Int.reduceNe, Int.reduceToNat, loop33, ltNat, c1, ln]
    rw [List.take_length] at h2 h4 ⊢
    exact ⟨M, k2, rfl, h2, h3, h4⟩

theorem mC_at' (w : Nat → Nat) {j : Nat} (h : j < 22) : (mC w)[j]? = some (.int .u64 (w j : Int)) := cl_get h
def loop63a (w : Nat → Nat) (k n : Nat) (l : List Nat) (j : Nat) : List (Nat × V) := [(6, .int .i64 (j : Int)), (0, buf k l), (5, .int .u64 (bitsN w j : Int)), (3, .ptr n 0)]
def loop63b (w : Nat → Nat) (n : Nat) (l : List Nat) (s : Nat × Nat) : List (Nat × V) := [(3, .ptr n 0), (7, .int .i8 (s.1 : Int)), (0, buf s.2 (l ++ (enc (bitsN w 11) 2 ++ (List.range s.1).flatMap (encF w))))]
theorem encF_len (w : Nat → Nat) {f : Nat} (h : f < 11) : (encF w f).length ≤ 12 := by
  obtain ⟨_, h2, _⟩ := sz_ok h
  unfold encF
  split
  · simp
  · rw [List.length_append, enc_len, enc_len]; omega
theorem encFs_len (w : Nat → Nat) : ∀ j, j ≤ 11 → ((List.range j).flatMap (encF w)).length ≤ 12 * j
  | 0, _ => by simp
  | j + 1, h => by
    have h1 := encFs_len w j (by omega)
    have h2 := encF_len w (f := j) (by omega)
    rw [List.range_succ, List.flatMap_append]
    simp only [List.flatMap_cons, List.flatMap_nil, List.append_nil, List.length_append]
    omega
theorem wi8 (j : Nat) (h : j < 11) : IntKind.i8.wrap ((j : Int) + 1) = ((j + 1 : Nat) : Int) := by simp [IntKind.wrap, IntKind.bits, IntKind.signed]; omega
/-- The states of memory beside one number put behind. -/
def JP (m : Mem) (k k' : Nat) (l e : List Nat) : Nat → Mem → Prop
  | 0, M => M = m
  | 1, M => M = m
  | _ + 2, M => Bf M k' (l ++ e) ∧ Ke k l m M
theorem JP0 {m : Mem} {k k' : Nat} {l e : List Nat} {i : Nat} {M : Mem} (h : JP m k k' l e i M) (hi : i ≤ 1) : M = m := by
  match i, hi with
  | 0, _ => exact h
  | 1, _ => exact h
end Go.Proofs.Ytjjenpdjmcmgbaa
