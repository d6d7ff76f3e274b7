/- Rules put behind bytes, by the reference. No condition. -/
import Derived.Test.YtjjenpdjmcmgbaaDZq
namespace Go.Proofs.Ytjjenpdjmcmgbaa
open Go Ab
set_option linter.unusedSimpArgs false
set_option linter.unusedVariables false
set_option maxRecDepth 20000
theorem enc1 (x : Nat) (h : x < 256) : enc x 1 = [x] := by simp [enc, putB, Nat.mod_eq_of_lt h]
theorem bs34u (m : Mem) (a b : Nat) : bsliceV Try.prog 34 2 [(0, .int .u8 (a : Int)), (1, .int .u8 (b : Int))] m = some (.sl 1 m.length 0 2, m ++ [rowB [a, b]]) := by kernel_rfl
theorem encA_len (a : Act) : (encA a).length = 10 := by simp only [encA, List.length_append, enc_len]
def pre34 (r : Ru) : List Nat := enc (r32 r.rank) 4 ++ (enc r.ck 8 ++ (encM r.w ++ enc r.l.length 2))
theorem encR_pre (r : Ru) : encR r = pre34 r ++ r.l.flatMap encC := by simp only [encR, pre34, encL, List.append_assoc]
theorem r32lt (x : Int) : r32 x < 4294967296 := by unfold r32; omega
theorem encM_len (w : Nat → Nat) : (encM w).length ≤ 134 := by
  have := encFs_len w 11 (by omega)
  simp only [encM, List.length_append, enc_len]
  omega
def loop34a (r : Ru) (n : Nat) (l : List Nat) (s : Nat × Nat) : List (Nat × V) := [(3, .ptr n 0), (5, .int .i64 (s.1 : Int)), (0, buf s.2 (l ++ (pre34 r ++ (r.l.take s.1).flatMap encC)))]
def loop34b (c : List Act) (i n : Nat) (L : List Nat) (s : Nat × Nat) : List (Nat × V) := [(6, .int .i64 (s.1 : Int)), (5, .int .i64 (i : Int)), (3, .ptr n 0), (0, buf s.2 (L ++ (enc c.length 2 ++ (c.take s.1).flatMap encA)))]
set_option maxHeartbeats 8000000 in
theorem snd34 {m : Mem} {k : Nat} {l : List Nat} {r : Ru} (hm : Bf m k l) (hr : wfR r) (hrk : rkOK r) (hb : l.length + (encR r).length + 1000 ≤ bnd) : Snd Try.prog 34 [buf k l, .agg (ruC r)] m (PQ k m l (encR r)) := by
  refine Snd_of_W fol rfl rfl (by kernel_rfl) (by kernel_rfl) ?_
  obtain ⟨w1, _⟩ := r32w r.rank hrk.1 hrk.2
  have w2 := wrapU (r32 r.rank) (by have := r32lt r.rank; omega)
  have hrl : r.l.length < 281474976710656 := hr.2.2.1.1
  have w3 := wrapU r.l.length (by omega)
  have p0 : (ruC r)[0]? = some (.int .i64 r.rank) := rfl
  have p1 : partK true 22 (ruC r) 1 = some (.agg (mC r.w)) := rfl
  have p2 : (ruC r)[23]? = some (cpsV r.l) := rfl
  have p3 : (ruC r)[24]? = some (.int .u64 (r.ck : Int)) := rfl
  have lnl : ∀ M, lenV Try.prog M 29 (cpsV r.l) = some (.int .i64 (r.l.length : Int)) := fun M => by unfold cpsV; rw [lni29, List.length_map]
  have hpl : (pre34 r).length ≤ 148 := by have := encM_len r.w; simp only [pre34, List.length_append, enc_len]; omega
  have htot := congrArg List.length (encR_pre r)
  rw [List.length_append] at htot
  have hml := encM_len r.w
  simp -implicitDefEqProofs only [sims.1, fx.1, keeps.1, tick_on, calleeK, faddrK, Nat.reduceEqDiff, at_app0, p0, w1, w2]
  refine callD_p (snd32 (n := 4) (hm.app _) (by omega) (by omega) (by omega)) en32 ?_
  intro k1 m1 b1 e1 f1
  have g1 := e1.var (hm.app _) at_app0
  have e1' := (Ke.app k l m [.var 31 (ruC r)]).trans (.inr ⟨rfl, rfl⟩) e1
  have f1' : Fr' m k l k1 (l ++ enc (r32 r.rank) 4) := by
    rcases f1 with f1 | f1
    · exact .inl (by simp at f1; omega)
    · exact .inr f1
  simp -implicitDefEqProofs only [sims.1, fx.1, keeps.1, tick_on, calleeK, faddrK, Nat.reduceEqDiff, g1, p3]
  refine callD_p (snd32 (n := 8) b1 (by omega) (by omega) (by simp only [List.length_append, enc_len]; omega)) en32 ?_
  intro k2 m2 b2 e2 f2
  have g2 := e2.var b1 g1
  have e2' := e1'.trans f1' e2
  have f2' := Fr'.trans e1'.1 f1' f2
  simp -implicitDefEqProofs only [sims.1, fx.1, keeps.1, tick_on, calleeK, faddrK, Nat.reduceEqDiff, g2, p1]
  refine callD_p (snd63 b2 hr.2.1 (by simp only [List.length_append, enc_len]; omega)) en63 ?_
  intro k3 m3 b3 e3 f3
  have g3 := e3.var b2 g2
  have e3' := e2'.trans f2' e3
  have f3' := Fr'.trans e2'.1 f2' f3
  simp -implicitDefEqProofs only [sims.1, fx.1, keeps.1, tick_on, calleeK, faddrK, Nat.reduceEqDiff, g3, p2, lnl, w3]
  refine callD_p (snd32 (n := 2) b3 (by omega) (by omega) (by simp only [List.length_append, enc_len]; omega)) en32 ?_
  intro k4 m4 b4 e4 f4
  have g4 := e4.var b3 g3
  have e4' := e3'.trans f3' e4
  have f4' := Fr'.trans e3'.1 f3' f4
  have hpre : l ++ enc (r32 r.rank) 4 ++ enc r.ck 8 ++ encM r.w ++ enc r.l.length 2 = l ++ pre34 r := by simp only [pre34, List.append_assoc]
  rw [hpre] at b4 f4' ⊢
  simp -implicitDefEqProofs only [sims.1, keeps.1, tick_on, Nat.reduceEqDiff]
  refine W_loopM (loop34a r m.length l) (fun s M => s.1 ≤ r.l.length ∧ M[m.length]? = some (.var 31 (ruC r)) ∧ Bf M s.2 (l ++ (pre34 r ++ (r.l.take s.1).flatMap encC)) ∧ Ke k l m M ∧ Fr' m k l s.2 (l ++ (pre34 r ++ (r.l.take s.1).flatMap encC))) (fun s => r.l.length + 1 - s.1) (0, k4)
    (Eq.trans (b := [(3, .ptr m.length 0), (5, .int .i64 0), (0, buf k4 (l ++ pre34 r))]) (by kernel_rfl) (by simp [loop34a])) ⟨by simp, g4, by simpa using b4, e4', by simpa using f4'⟩ ?_
  rintro ⟨i, k5⟩ M ⟨h1, h2, h3, h4, h5⟩
  simp only at h1 h2 h3 h4 h5
  rcases Nat.lt_or_ge i r.l.length with hi | hi
  · have c1 : decide (i < r.l.length) = true := by simpa using hi
    have a1 := add1N i (by omega)
    have hcw := hr.2.2.1.2 _ (List.getElem_mem hi)
    have hcl : r.l[i].length < 281474976710656 := hcw.1
    have w4 := wrapU r.l[i].length (by omega)
    have lnc : ∀ M, lenV Try.prog M 99 (cpV r.l[i]) = some (.int .i64 (r.l[i].length : Int)) := fun M => by unfold cpV; rw [lni99, List.length_map]
    have ia : ∀ {kk : IntKind}, iaddrS 1 (cpsV r.l) (.int kk (i : Int)) = some (.ip [cpV r.l[i]]) := fun {kk} => iaddrS_isl (by simp [hi])
    have hfl := flat_le (g := encC) r.l (i + 1)
    have hft := flat_take (g := encC) hi
    have hLi : ((r.l.take i).flatMap encC).length + (encC r.l[i]).length ≤ (r.l.flatMap encC).length := by rw [hft, List.length_append] at hfl; exact hfl
    have hcc : (encC r.l[i]).length = 2 + (r.l[i].flatMap encA).length := by simp only [encC, List.length_append, enc_len]
    simp -implicitDefEqProofs only [sims.1, fx.1, keeps.1, tick_on, calleeK, faddrK, Nat.reduceEqDiff, loop34a, ltNat, c1, h2, p2, lnl, lnc, ia, w4]
    generalize hL : l ++ (pre34 r ++ (r.l.take i).flatMap encC) = L at h3 h5 ⊢
    have hLl : L.length + (encC r.l[i]).length ≤ l.length + (encR r).length := by rw [← hL]; simp only [List.length_append]; omega
    refine callD_p (snd32 (n := 2) h3 (by omega) (by omega) (by omega)) en32 ?_
    intro k6 m6 b6 e6 f6
    have g6 := e6.var h3 h2
    have e6' := h4.trans h5 e6
    have f6' := Fr'.trans h4.1 h5 f6
    simp -implicitDefEqProofs only [sims.1, keeps.1, tick_on, Nat.reduceEqDiff]
    refine W_loopM (loop34b r.l[i] i m.length L) (fun s M => s.1 ≤ r.l[i].length ∧ M[m.length]? = some (.var 31 (ruC r)) ∧ Bf M s.2 (L ++ (enc r.l[i].length 2 ++ (r.l[i].take s.1).flatMap encA)) ∧ Ke k l m M ∧ Fr' m k l s.2 (L ++ (enc r.l[i].length 2 ++ (r.l[i].take s.1).flatMap encA))) (fun s => r.l[i].length + 1 - s.1) (0, k6)
      (Eq.trans (b := [(6, .int .i64 0), (5, .int .i64 (i : Int)), (3, .ptr m.length 0), (0, buf k6 (L ++ enc r.l[i].length 2))]) (by kernel_rfl) (by simp [loop34b])) ⟨by simp, g6, by simpa using b6, e6', by simpa using f6'⟩ ?_
    rintro ⟨j, k7⟩ M7 ⟨q1, q2, q3, q4, q5⟩
    simp only at q1 q2 q3 q4 q5
    rcases Nat.lt_or_ge j r.l[i].length with hj | hj
    · have c2 : decide (j < r.l[i].length) = true := by simpa using hj
      have a2 := add1N j (by omega)
      have haw := hcw.2 _ (List.getElem_mem hj)
      have ib : ∀ {kk : IntKind}, iaddrS 3 (cpV r.l[i]) (.int kk (j : Int)) = some (.ip (acC r.l[i][j])) := fun {kk} => iaddrS_isl (by simp [hj])
      have u1 := i8u8 r.l[i][j].d
      have u2 := i8u8 r.l[i][j].f
      have v1 := i8N_lt r.l[i][j].d
      have v2 := i8N_lt r.l[i][j].f
      have gM : ∀ ex : Mem, (M7 ++ ex)[m.length]? = some (.var 31 (ruC r)) := fun ex => by rw [List.getElem?_append_left (List.getElem?_eq_some_iff.1 q2).1]; exact q2
      have hfa := flat_le (g := encA) r.l[i] (j + 1)
      have hta := flat_take (g := encA) hj
      rw [hta, List.length_append, encA_len] at hfa
      simp -implicitDefEqProofs only [sims.1, fx.1, keeps.1, tick_on, faddrK, Nat.reduceAdd, Nat.reduceEqDiff, Nat.reduceLeDiff, loop34b, ltNat, c2, q2, p2, lnc, ia, ib, acp, acl, sp3, storeK_agg, at_app0, set_app0, ac0, ac1, u1, u2, bs34u]
      generalize hL2 : L ++ (enc r.l[i].length 2 ++ (r.l[i].take j).flatMap encA) = L2 at q3 q5 ⊢
      have hL2l : L2.length + 10 ≤ L.length + (encC r.l[i]).length := by rw [← hL2]; simp only [List.length_append, enc_len]; omega
      obtain ⟨m', k', x1, x2, x3, x4, x5⟩ := apL (m := M7 ++ [B.var 123 (acC r.l[i][j])] ++ [rowB [i8N r.l[i][j].d, i8N r.l[i][j].f]]) (new := [i8N r.l[i][j].d, i8N r.l[i][j].f]) (x := .sl 1 (M7.length + 1) 0 2) (show contV _ 1 (.sl 1 (M7.length + 1) 0 [i8N r.l[i][j].d, i8N r.l[i][j].f].length) = _ from cont_r (by simp)) ((q3.app _).app _) (by simp; omega)
      have hlm : (M7 ++ [B.var 123 (acC r.l[i][j])]).length = M7.length + 1 := by simp
      simp only [hlm]
      rw [x1]
      have ex1 := (q4.trans q5 (Ke.app k7 L2 M7 [B.var 123 (acC r.l[i][j])])).trans q5 (Ke.app k7 L2 _ [rowB [i8N r.l[i][j].d, i8N r.l[i][j].f]])
      have ex2 := ex1.trans q5 x3
      have fx2 := Fr'.trans ex1.1 q5 x4
      have gx0 : (M7 ++ [B.var 123 (acC r.l[i][j])] ++ [rowB [i8N r.l[i][j].d, i8N r.l[i][j].f]])[m.length]? = some (.var 31 (ruC r)) := by rw [List.append_assoc]; exact gM _
      have gx := x3.var ((q3.app _).app _) gx0
      have gy0 : (M7 ++ [B.var 123 (acC r.l[i][j])] ++ [rowB [i8N r.l[i][j].d, i8N r.l[i][j].f]])[M7.length]? = some (.var 123 (acC r.l[i][j])) := by rw [List.append_assoc]; exact at_app0
      have gy := x3.var ((q3.app _).app _) gy0
      simp -implicitDefEqProofs only [sims.1, fx.1, keeps.1, tick_on, calleeK, faddrK, Nat.reduceEqDiff, gy, ac2]
      refine callD_p (snd32 (n := 8) x2 (by omega) (by omega) (by rw [List.length_append]; simp; omega)) en32 ?_
      intro k8 m8 b8 e8 f8
      have g8 := e8.var x2 gx
      have hn : L2 ++ [i8N r.l[i][j].d, i8N r.l[i][j].f] ++ enc r.l[i][j].n 8 = L ++ (enc r.l[i].length 2 ++ (r.l[i].take (j + 1)).flatMap encA) := by
        rw [hta, ← hL2]
        simp only [encA, enc1 _ v1, enc1 _ v2, List.append_assoc, List.cons_append, List.nil_append]
      rw [hn] at b8 f8 ⊢
      simp -implicitDefEqProofs only [sims.1, keeps.1, tick_on, Nat.reduceEqDiff, a2]
      exact ⟨(j + 1, k8), by kernel_rfl, ⟨hj, by first | exact g8 | trivial, b8, ex2.trans fx2 e8, Fr'.trans ex2.1 fx2 f8⟩, by simp only; omega⟩
    · obtain rfl : j = r.l[i].length := by omega
      have c2 : decide (r.l[i].length < r.l[i].length) = false := by simp
      simp -implicitDefEqProofs only [sims.1, fx.1, keeps.1, tick_on, faddrK, Nat.reduceEqDiff, loop34b, ltNat, c2, q2, p2, lnc, ia, a1]
      rw [List.take_length] at q3 q5 ⊢
      have hn : L ++ (enc r.l[i].length 2 ++ r.l[i].flatMap encA) = l ++ (pre34 r ++ (r.l.take (i + 1)).flatMap encC) := by
        rw [hft, ← hL]
        simp only [encC, List.append_assoc]
      rw [hn] at q3 q5 ⊢
      exact ⟨(i + 1, k7), by kernel_rfl, ⟨hi, by first | exact q2 | trivial, q3, q4, q5⟩, by simp only; omega⟩
  · obtain rfl : i = r.l.length := by omega
    have c1 : decide (r.l.length < r.l.length) = false := by simp
    simp -implicitDefEqProofs only [sims.1, fx.1, keeps.1, tick_on, faddrK, Nat.reduceEqDiff, loop34a, ltNat, c1, h2, p2, lnl]
    rw [List.take_length, ← encR_pre] at h3 h5 ⊢
    exact ⟨M, k5, rfl, h3, h4, h5⟩
end Go.Proofs.Ytjjenpdjmcmgbaa
