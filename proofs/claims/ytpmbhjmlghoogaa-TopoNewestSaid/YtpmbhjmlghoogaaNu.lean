/- A frame's bytes are read. No condition. -/
import Derived.Test.YtpmbhjmlghoogaaNt
namespace Go.Proofs.Ytpmbhjmlghoogaa
open Go Ab
set_option linter.unusedSimpArgs false
set_option linter.unusedVariables false
set_option maxRecDepth 20000

theorem upH_at (h : Hd) (i v j : Nat) : upH h i v j = if j = i then v else h j := rfl
def h3 (l : List Nat) : Hd
  | 0 => gt l 6 6 | 1 => gt l 0 6 | 2 => kd l | 3 => bif tg l then gt l 14 2 else 0 | _ => 0
theorem h3_2 (l : List Nat) : h3 l 2 = kd l := rfl
theorem rdH_2 (l : List Nat) : rdH l 2 = kd l := rfl
/-- What an answer with structs in it is told as. -/
def ret3 (m : Mem) (v v0 : V) : Prop := ret1 bareL m v v0 ∨ ∃ l l0, v = .agg l ∧ v0 = .agg l0 ∧ ret2 bareL m l l0
def ret4 (m : Mem) : List V → List V → Prop
  | [], [] => True
  | v :: r, v0 :: r0 => ret3 m v v0 ∧ ret4 m r r0
  | _, _ => False
theorem ret2_Rc {N : Nat} {ρ ρ0 : Pl} {I J : Nat → Prop} {m : Mem} {w : World} (hr : Rep ρ I m w) (hJ : ∀ n, live m n → J (ρ n).1) : ∀ {l l0 : List V} {c : Array Value} {o : Nat}, ret2 bareL m l l0 → Rc m.length ρ I w l0 c o → l.length = l0.length ∧ Rc N ρ0 J w l c o
  | [], [], _, _, _, _ => ⟨rfl, by simp [Rc]⟩
  | v :: r, v0 :: r0, c, o, h, hx => by
    simp only [Rc] at hx ⊢
    obtain ⟨⟨x, h1, h2, h3⟩, h4⟩ := hx
    obtain ⟨k1, k2⟩ := ret2_Rc hr hJ (l := r) h.2 h4
    exact ⟨by simp [k1], ⟨x, h1, h2, ret1_RV hr hJ h.1 h3⟩, k2⟩
  | [], _ :: _, _, _, h, _ => h.elim
  | _ :: _, [], _, _, h, _ => h.elim
theorem ret3_RV {N : Nat} {ρ ρ0 : Pl} {I J : Nat → Prop} {m : Mem} {w : World} (hr : Rep ρ I m w) (hJ : ∀ n, live m n → J (ρ n).1) {v v0 : V} {x : Value} (hv : ret3 m v v0) (hx : RV m.length ρ I w v0 x) : RV N ρ0 J w v x := by
  rcases hv with hv | ⟨l, l0, rfl, rfl, hv⟩
  · exact ret1_RV hr hJ hv hx
  · simp only [RV] at hx ⊢
    obtain ⟨c, h1, h2, h3⟩ := hx
    obtain ⟨k1, k2⟩ := ret2_Rc (J := J) (N := N) (ρ0 := ρ0) hr hJ hv h3
    exact ⟨c, h1, by rw [k1]; exact h2, k2⟩
theorem ret4_Rt {N : Nat} {ρ ρ0 : Pl} {I J : Nat → Prop} {m : Mem} {w : World} (hr : Rep ρ I m w) (hJ : ∀ n, live m n → J (ρ n).1) : ∀ {l l0 : List V} {c : Array Value} {o : Nat}, ret4 m l l0 → Rt m.length ρ I w l0 c o → l.length = l0.length ∧ Rt N ρ0 J w l c o
  | [], [], _, _, _, _ => ⟨rfl, by simp [Rt]⟩
  | v :: r, v0 :: r0, c, o, h, hx => by
    simp only [Rt] at hx ⊢
    obtain ⟨⟨x, h1, h2⟩, h3⟩ := hx
    obtain ⟨k1, k2⟩ := ret4_Rt hr hJ (l := r) h.2 h3
    exact ⟨by simp [k1], ⟨x, h1, ret3_RV hr hJ h.1 h2⟩, k2⟩
  | [], _ :: _, _, _, h, _ => h.elim
  | _ :: _, [], _, _, h, _ => h.elim
theorem ansB_of3 {P : Program} {f : FuncId} {vs : List V} {l : List V} (h : Snd P f vs [] fun r => ∃ m1 l0, r = .ret (.tup l0) m1 ∧ ret4 m1 l l0) : AnsB P f vs (.tup l) := by
  intro I w xs hi hl hrt
  refine (h _ I w xs (repI hi) hl hrt).mono ?_
  rintro e w' ⟨r, ⟨m1, l0, rfl, hret⟩, x, ρ', I', rfl, k1, k2, k3⟩
  have noOwn : ∀ b, ¬ Own (fun _ => (0, 0)) ([] : Mem) b := by rintro b ⟨n, hn, _⟩; simp [live] at hn
  have old : ∀ b : Nat, b < w.heap.size → w'.heap[b]? = w.heap[b]? := fun b hb => k2.frame b hb (noOwn b)
  have hJ : ∀ n, live m1 n → (fun b => w.heap.size ≤ b ∧ b < w'.heap.size) (ρ' n).1 := by
    intro n hn
    refine ⟨?_, k1.live_lt hn⟩
    rcases k2.own _ ⟨n, hn, rfl⟩ with h | h
    · exact h
    · exact absurd h (noOwn _)
  refine ⟨x, rfl, ?_, ⟨k2.wle.os, k2.wle.tape, k2.wle.output, k2.wle.size, old, k2.wle.cells⟩⟩
  have k3' : RV m1.length ρ' I' w' (.tup l0) x := k3
  have k1 : Rep ρ' I' m1 w' := k1
  simp only [RV] at k3' ⊢
  obtain ⟨c, h3, h4, h5⟩ := k3'
  obtain ⟨h6, h7⟩ := ret4_Rt (J := fun b => w.heap.size ≤ b ∧ b < w'.heap.size) (m := m1) (N := 0) (ρ0 := fun _ => (0, 0)) k1 hJ hret h5
  exact ⟨c, h3, by rw [h6]; exact h4, h7⟩
theorem ret2_pc {m : Mem} {h : Hd} {u u0 : V} (hu : ret1 bareL m u u0) : ret2 bareL m (pcC h u) (pcC h u0) := by
  simp only [pcC, hdC, cl, List.range, List.range.loop, List.map_cons, List.map_nil, List.cons_append, List.nil_append]
  exact ⟨⟨rfl, rfl⟩, ⟨rfl, rfl⟩, ⟨rfl, rfl⟩, ⟨rfl, rfl⟩, ⟨rfl, rfl⟩, ⟨rfl, rfl⟩, ⟨rfl, rfl⟩, ⟨rfl, rfl⟩, ⟨rfl, rfl⟩, ⟨rfl, rfl⟩, ⟨rfl, rfl⟩, hu, trivial⟩
def QP (l : List Nat) (r : CR) : Prop := ∃ m1 l0, r = .ret (.tup l0) m1 ∧ ret4 m1 [pkA (prsH l) (prsB l), .int .i64 (prsE l)] l0
theorem qp_err {l : List Nat} (h : prsK l = false) (m1 : Mem) : QP l (.ret (.tup [.agg (pcC zH .nils), .int .i64 30]) m1) := by
  refine ⟨m1, _, rfl, .inr ⟨_, _, rfl, rfl, ?_⟩, .inl ⟨?_, rfl⟩, trivial⟩
  · have e1 : prsH l = zH := by simp [prsH, h]
    have e2 : prsB l = [] := by simp [prsB, h]
    rw [e1, e2]
    exact ret2_pc ret1_nil
  · simp [prsE, h]
theorem qp_short {l : List Nat} (h : rdOK l = false) (m1 : Mem) : QP l (.ret (.tup [.agg (pcC zH .nils), .int .i64 30]) m1) := qp_err (prsK_no h) m1
theorem lend_pc (m : Mem) (h : Hd) (n q : Nat) (c : List Nat) (hm : m[n]? = some (rowB c)) (hq : q = c.length) : lendV m (.agg (pcC h (.sl 1 n 0 q))) = pkA h c := by
  have h1 : lend1 m (.sl 1 n 0 q) = byV c := by
    have := lend_at (k := q) (a := 0) hm (by omega)
    rw [List.drop_zero] at this
    exact this
  show V.agg ((hdC h ++ [V.sl 1 n 0 q]).map (lend1 m)) = .agg (hdC h ++ [byV c])
  rw [List.map_append, List.map_cons, List.map_nil, h1]
  rfl
theorem qp_ok {l : List Nat} {m1 : Mem} {h : Hd} {n q : Nat} (hk : prsK l = true) (he : ∀ i, i < 11 → h i = rdH l i) (hm : m1[n]? = some (rowB (rdB l))) (hq : q = (rdB l).length) : QP l (.ret (.tup [.agg (pcC h (.sl 1 n 0 q)), .int .i64 0]) m1) := by
  have hp : pcC h (.sl 1 n 0 q) = pcC (rdH l) (.sl 1 n 0 q) := pc_ext _ he
  rw [hp]
  refine ⟨m1, _, rfl, .inr ⟨_, _, rfl, rfl, ?_⟩, .inl ⟨?_, rfl⟩, trivial⟩
  · have e1 : prsH l = rdH l := by simp [prsH, hk]
    have e2 : prsB l = rdB l := by simp [prsB, hk]
    rw [e1, e2]
    exact ret2_pc (ret1_row hm (by simp [hq]) (by_bare _))
  · simp [prsE, hk]
/-- A call on a packet whose body is a row of the caller's. -/
theorem callD_pk {f : FuncId} {m : Mem} {K Kp : V → Mem → Prop} {h : Hd} {n q : Nat} {c : List Nat} {v : V} (hs : AnsB Try.prog f [pkA h c] v) (he : enterable Try.prog f = true) (hv : nf v = true) (hm : m[n]? = some (rowB c)) (hq : q = c.length) (hk : K v m) : callD Try.prog f [.agg (pcC h (.sl 1 n 0 q))] m K Kp := by
  have hlt : n < m.length := (List.getElem?_eq_some_iff.1 hm).1
  have hg : m.getD n .dead = rowB c := by simp [List.getD, hm]
  have hnm : nmss [.agg (pcC h (.sl 1 n 0 q))] = [n] := by
    simp only [nmss, nms, pcC, hdC, cl, List.append_nil]
    rfl
  have hr : rootsV m [.agg (pcC h (.sl 1 n 0 q))] = [n] := by
    unfold rootsV
    rw [hnm]
    have h1 : nmsB (m.getD n .dead) = [] := by rw [hg]; exact nmsB_flat (nfB_row c)
    have h2 : reach m 79 [] [n] = [n] := rfl
    simp only [reach, List.contains_nil, cond_false, List.nil_append, h1, h2]
  have hv1 : rens (idx [n]) [.agg (pcC h (.sl 1 n 0 q))] = [.agg (pcC h (.sl 1 0 0 q))] := by
    have : idx [n] n = 0 := by simp [idx]
    simp only [rens, ren, pcC, hdC, cl]
    simp [List.range, List.range.loop, rens, ren, this]
  have hview : view [n] m = [rowB c] := by
    simp only [view, List.map_cons, List.map_nil, hg]
    rw [nfB_renB _ (nfB_row c)]
  have hclo : closedB [n] m = true := by
    simp only [closedB, nodupB, List.contains_nil, Bool.not_false, Bool.true_and, List.all_cons, List.all_nil, Bool.and_true, hg, nfB_inDB _ (nfB_row c), Nat.blt_eq, hlt]
  have hin : inDs (fun k => [n].contains k) [.agg (pcC h (.sl 1 n 0 q))] = true := by
    simp only [inDs, inD, pcC, hdC, cl]
    simp [List.range, List.range.loop, inDs, inD]
  refine callD_at [n] (Snd_lendB (vs := [.agg (pcC h (.sl 1 0 0 q))]) (m := [rowB c]) ?_ ?_ hs hv) he hr ?_ hv1 hview hv ?_ rfl rfl ?_ hk
  · rw [List.map_cons, List.map_nil, lend_pc [rowB c] h 0 q c rfl hq]
  · simp only [nfs, nf_pkA, Bool.and_self]
  · simp only [okCall, hin, hclo, Bool.and_self]
  · exact all_inDB (nfM_cons (nfB_row c) rfl)
  · have hf : nfB (rowB c) = true := nfB_row c
    rw [p_merge hf]
    have := List.set_getElem_self hlt
    rw [(List.getElem?_eq_some_iff.1 hm).2] at this
    exact this
theorem bu57 (l : List Nat) : buildV Try.prog 107 [(0, byV l)] = some (.agg [byV l]) := by kernel_rfl
theorem storeK_slp {m : Mem} {n off s k o q : Nat} : storeK 1 m (.ptr n off) (.sl s k o q) = (m[n]?).bind fun b => match b with
    | .var ty l => if off < l.length then some (m.set n (.var ty (l.set off (.sl s k o q)))) else none
    | _ => none := storeK_one rfl
theorem bsl0 (m : Mem) : bsliceV Try.prog 31 0 [] m = some (.sl 1 m.length 0 0, m ++ [rowB []]) := by
  have h2 : Nat.ble 0 16777216 = true := by decide
  simp [bsliceV, un22, ze5, kn5, frzQ, cond_false, frzP, h2, fillE, cellsOfV, cellsB, oneV, rowB, byC]
def sets := PLift.up (And.intro (And.intro (And.intro (And.intro (And.intro @set0 @set1) (And.intro @set2 @set3)) (And.intro (And.intro @set4 @set5) (And.intro @set6 @set7))) (And.intro (And.intro (And.intro @set8 @set11) (And.intro @pc2 @pc3)) (And.intro (And.intro @pc6 @pc11) (And.intro @pc0z @pc_len)))) (And.intro (And.intro (And.intro (And.intro @pc_all @upH_at) (And.intro @storeK_slp @bu57)) (And.intro (And.intro @List.take_succ_cons.{0} @List.take_zero.{0}) (And.intro @List.drop_succ_cons.{0} @List.drop_zero.{0}))) (And.intro (And.intro (And.intro @List.drop_nil.{0} @List.take_nil.{0}) (And.intro @rl1 @eqC0)) (And.intro (And.intro @eqC2 @eqC3) (And.intro @eqC4 (And.intro @eqC5 @eqC6))))))
def C1 (l : List Nat) (e : Env) (m : Mem) : Prop := e 0 = byV l ∧ e 2 = .ptr 0 0 ∧ e 3 = .ptr 1 0 ∧ e 4 = .ptr 2 0 ∧ e 5 = .ptr 0 0 ∧
  m = [.var 60 (pcC (h3 l) .nils), .var 61 [.int .i64 0], .var 107 [byV (l.drop (po l))]] ∧ po l ≤ l.length ∧ 14 ≤ l.length ∧ (tg l = true → 18 ≤ l.length ∧ gt l 14 2 ≠ 0)
def C2 (l : List Nat) (e : Env) (m : Mem) : Prop := e 0 = byV l ∧ e 2 = .ptr 0 0 ∧ e 3 = .ptr 1 0 ∧ e 4 = .ptr 2 0 ∧ e 5 = .ptr 0 0 ∧
  ∃ H : Hd, (∀ i, i < 11 → H i = rdH l i) ∧ m = [.var 60 (pcC H .nils), .var 61 [.int .i64 0], .var 107 [byV (l.drop (po l + mr l))]] ∧ rdOK l = true
theorem h3_tag {l : List Nat} (t : tg l = true) : ∀ i, i < 11 → upH (upH (upH (upH (upH zH 1 (gt l 0 6)) 0 (gt l 6 6)) 2 (gt l 12 2)) 3 (gt l 14 2)) 2 (gt l 16 2) i = h3 l i := by
  intro i hi
  match i, hi with
  | 0, _ | 1, _ | 2, _ | 3, _ | 4, _ | 5, _ | 6, _ | 7, _ | 8, _ | 9, _ | 10, _ => simp [upH, h3, zH, kd, t]
theorem h3_no {l : List Nat} (t : tg l = false) : ∀ i, i < 11 → upH (upH (upH zH 1 (gt l 0 6)) 0 (gt l 6 6)) 2 (gt l 12 2) i = h3 l i := by
  intro i hi
  match i, hi with
  | 0, _ | 1, _ | 2, _ | 3, _ | 4, _ | 5, _ | 6, _ | 7, _ | 8, _ | 9, _ | 10, _ => simp [upH, h3, zH, kd, t]
theorem ne2048 {n : Nat} (h : decide (n = 2054) = true) : decide (n = 2048) = false := by
  have := of_decide_eq_true h
  simp; omega
theorem fin_arp {l : List Nat} (k1 : decide (kd l = 2054) = true) : ∀ i, i < 11 → upH (upH (h3 l) 4 (gt l (po l + 14) 4)) 5 (gt l (po l + 24) 4) i = rdH l i := by
  have k2 := ne2048 k1
  intro i hi
  match i, hi with
  | 0, _ | 1, _ | 2, _ | 3, _ | 4, _ | 5, _ | 6, _ | 7, _ | 8, _ | 9, _ | 10, _ => simp only [upH, h3, rdH, hasP, k1, k2, cond_true, cond_false, Bool.false_and] <;> rfl
theorem fin_oth {l : List Nat} (k1 : decide (kd l = 2054) = false) (k2 : decide (kd l = 2048) = false) : ∀ i, i < 11 → h3 l i = rdH l i := by
  intro i hi
  match i, hi with
  | 0, _ | 1, _ | 2, _ | 3, _ | 4, _ | 5, _ | 6, _ | 7, _ | 8, _ | 9, _ | 10, _ => simp only [h3, rdH, hasP, k1, k2, cond_true, cond_false, Bool.false_and]
theorem fin_ip0 {l : List Nat} (k1 : decide (kd l = 2054) = false) (k2 : decide (kd l = 2048) = true) (p1 : decide (pr l = 6) = false) (p2 : decide (pr l = 17) = false) : ∀ i, i < 11 → upH (upH (upH (h3 l) 6 (pr l)) 4 (gt l (po l + 12) 4)) 5 (gt l (po l + 16) 4) i = rdH l i := by
  intro i hi
  match i, hi with
  | 0, _ | 1, _ | 2, _ | 3, _ | 4, _ | 5, _ | 6, _ | 7, _ | 8, _ | 9, _ | 10, _ => simp only [upH, h3, rdH, hasP, k1, k2, p1, p2, cond_true, cond_false, Bool.false_and, Bool.true_and, Bool.or_self] <;> rfl
theorem fin_ip1 {l : List Nat} (k1 : decide (kd l = 2054) = false) (k2 : decide (kd l = 2048) = true) (hp : hasP l = true) : ∀ i, i < 11 → upH (upH (upH (upH (upH (h3 l) 6 (pr l)) 4 (gt l (po l + 12) 4)) 5 (gt l (po l + 16) 4)) 7 (gt l (po l + 20) 2)) 8 (gt l (po l + 22) 2) i = rdH l i := by
  intro i hi
  match i, hi with
  | 0, _ | 1, _ | 2, _ | 3, _ | 4, _ | 5, _ | 6, _ | 7, _ | 8, _ | 9, _ | 10, _ => simp only [upH, h3, rdH, hp, k1, k2, cond_true, cond_false] <;> rfl
theorem ok_of {l : List Nat} (h14 : 14 ≤ l.length) (ht : tg l = true → 18 ≤ l.length ∧ gt l 14 2 ≠ 0) (hn : need l ≤ l.length) : rdOK l = true := by
  unfold rdOK
  cases t : tg l
  · simp [h14, hn]
  · obtain ⟨h1, h2⟩ := ht t
    simp [h14, hn, h1, h2]
set_option maxHeartbeats 16000000 in
theorem snd18P (l : List Nat) (hb : ∀ b ∈ l, b < 256) (hl : l.length < 140737488351233) : Snd Try.prog 18 [byV l] [] (QP l) := by
  refine Snd_of_WD (k := 7) (g := 37) (caps := [.tmp 2, .tmp 3]) fol rfl rfl rfl (by kernel_rfl) (by kernel_rfl) (by kernel_rfl) (by kernel_rfl) (by kernel_rfl) (by kernel_rfl) ?_
  simp -implicitDefEqProofs only [sims.1, fx.1, keeps.1, tick_on, calleeK, extractV, oneV, faddrK, nonnil, b_shr, b_shl, fieldK, Nat.reduceAdd, Nat.reduceMul, Nat.reduceSub, Nat.reduceEqDiff, Nat.reduceLT, Nat.reduceLeDiff, Nat.reduceBEq, Nat.reduceBNe, reduceIte, Int.reduceEq, Int.reduceLT, Int.reduceLE, Int.reduceNe, Int.reduceToNat, pks.1, sets.1, tick_on]
  rcases Nat.lt_or_ge l.length (0 + 6) with sh | sh
  · refine w_panicky 3 rfl ?_
    change runE _ _ (panHere _ _ _ _ (_ :: _)) _ _ (_ :: _ :: _ :: []) _ _
    simp -implicitDefEqProofs only [sims.1, fx.1, keeps.1, tick_on, calleeK, extractV, oneV, faddrK, nonnil, b_shr, b_shl, fieldK, Nat.reduceAdd, Nat.reduceMul, Nat.reduceSub, Nat.reduceEqDiff, Nat.reduceLT, Nat.reduceLeDiff, Nat.reduceBEq, Nat.reduceBNe, reduceIte, Int.reduceEq, Int.reduceLT, Int.reduceLE, Int.reduceNe, Int.reduceToNat, pks.1, sets.1, tick_on]
    refine p_here rfl ?_ ?_
    · repeat (first | (refine u_skip rfl ?_) | (refine u_go rfl rfl rfl rfl rfl rfl rfl (by kernel_rfl) ?_))
      exact u_nil
    · simp -implicitDefEqProofs only [sims.1, fx.1, keeps.1, tick_on, calleeK, extractV, oneV, faddrK, nonnil, b_shr, b_shl, fieldK, Nat.reduceAdd, Nat.reduceMul, Nat.reduceSub, Nat.reduceEqDiff, Nat.reduceLT, Nat.reduceLeDiff, Nat.reduceBEq, Nat.reduceBNe, reduceIte, Int.reduceEq, Int.reduceLT, Int.reduceLE, Int.reduceNe, Int.reduceToNat, pks.1, sets.1, tick_on]
      refine callP_num l (0) 6 rfl rfl (by omega) (by omega) ?_
      simp -implicitDefEqProofs only [sims.1, fx.1, keeps.1, tick_on, calleeK, extractV, oneV, faddrK, nonnil, b_shr, b_shl, fieldK, Nat.reduceAdd, Nat.reduceMul, Nat.reduceSub, Nat.reduceEqDiff, Nat.reduceLT, Nat.reduceLeDiff, Nat.reduceBEq, Nat.reduceBNe, reduceIte, Int.reduceEq, Int.reduceLT, Int.reduceLE, Int.reduceNe, Int.reduceToNat, pks.1, sets.1, tick_on]
      exact boom3 _ _ _ _ rfl rfl (qp_short (short14 (by omega)) _)
  rcases Nat.lt_or_ge l.length (6 + 6) with sh2 | sh2
  · refine w_panicky 5 rfl ?_
    change runE _ _ (panHere _ _ _ _ (_ :: _)) _ _ (_ :: _ :: _ :: _ :: _ :: []) _ _
    simp -implicitDefEqProofs only [sims.1, fx.1, keeps.1, tick_on, calleeK, extractV, oneV, faddrK, nonnil, b_shr, b_shl, fieldK, Nat.reduceAdd, Nat.reduceMul, Nat.reduceSub, Nat.reduceEqDiff, Nat.reduceLT, Nat.reduceLeDiff, Nat.reduceBEq, Nat.reduceBNe, reduceIte, Int.reduceEq, Int.reduceLT, Int.reduceLE, Int.reduceNe, Int.reduceToNat, pks.1, sets.1, tick_on]
    refine callE_num l (0) 6 (6) hb rfl rfl (by omega) (by omega) (by omega) ⟨by kernel_rfl, ?_⟩
    simp -implicitDefEqProofs only [sims.1, fx.1, keeps.1, tick_on, calleeK, extractV, oneV, faddrK, nonnil, b_shr, b_shl, fieldK, Nat.reduceAdd, Nat.reduceMul, Nat.reduceSub, Nat.reduceEqDiff, Nat.reduceLT, Nat.reduceLeDiff, Nat.reduceBEq, Nat.reduceBNe, reduceIte, Int.reduceEq, Int.reduceLT, Int.reduceLE, Int.reduceNe, Int.reduceToNat, pks.1, sets.1, tick_on]
    refine p_here rfl ?_ ?_
    · repeat (first | (refine u_skip rfl ?_) | (refine u_go rfl rfl rfl rfl rfl rfl rfl (by kernel_rfl) ?_))
      exact u_nil
    · simp -implicitDefEqProofs only [sims.1, fx.1, keeps.1, tick_on, calleeK, extractV, oneV, faddrK, nonnil, b_shr, b_shl, fieldK, Nat.reduceAdd, Nat.reduceMul, Nat.reduceSub, Nat.reduceEqDiff, Nat.reduceLT, Nat.reduceLeDiff, Nat.reduceBEq, Nat.reduceBNe, reduceIte, Int.reduceEq, Int.reduceLT, Int.reduceLE, Int.reduceNe, Int.reduceToNat, pks.1, sets.1, tick_on]
      refine callP_num l (6) 6 rfl rfl (by omega) (by omega) ?_
      simp -implicitDefEqProofs only [sims.1, fx.1, keeps.1, tick_on, calleeK, extractV, oneV, faddrK, nonnil, b_shr, b_shl, fieldK, Nat.reduceAdd, Nat.reduceMul, Nat.reduceSub, Nat.reduceEqDiff, Nat.reduceLT, Nat.reduceLeDiff, Nat.reduceBEq, Nat.reduceBNe, reduceIte, Int.reduceEq, Int.reduceLT, Int.reduceLE, Int.reduceNe, Int.reduceToNat, pks.1, sets.1, tick_on]
      exact boom3 _ _ _ _ rfl rfl (qp_short (short14 (by omega)) _)
  refine w_noisy ?_
  simp -implicitDefEqProofs only [sims.1, fx.1, keeps.1, tick_on, calleeK, extractV, oneV, faddrK, nonnil, b_shr, b_shl, fieldK, Nat.reduceAdd, Nat.reduceMul, Nat.reduceSub, Nat.reduceEqDiff, Nat.reduceLT, Nat.reduceLeDiff, Nat.reduceBEq, Nat.reduceBNe, reduceIte, Int.reduceEq, Int.reduceLT, Int.reduceLE, Int.reduceNe, Int.reduceToNat, pks.1, sets.1, tick_on]
  refine callE_num l (0) 6 (6) hb rfl rfl (by omega) (by omega) (by omega) ⟨by kernel_rfl, ?_⟩
  simp -implicitDefEqProofs only [sims.1, fx.1, keeps.1, tick_on, calleeK, extractV, oneV, faddrK, nonnil, b_shr, b_shl, fieldK, Nat.reduceAdd, Nat.reduceMul, Nat.reduceSub, Nat.reduceEqDiff, Nat.reduceLT, Nat.reduceLeDiff, Nat.reduceBEq, Nat.reduceBNe, reduceIte, Int.reduceEq, Int.reduceLT, Int.reduceLE, Int.reduceNe, Int.reduceToNat, pks.1, sets.1, tick_on]
  refine callE_num l (6) 6 (12) hb rfl rfl (by omega) (by omega) (by omega) ⟨by kernel_rfl, ?_⟩
  simp -implicitDefEqProofs only [sims.1, fx.1, keeps.1, tick_on, calleeK, extractV, oneV, faddrK, nonnil, b_shr, b_shl, fieldK, Nat.reduceAdd, Nat.reduceMul, Nat.reduceSub, Nat.reduceEqDiff, Nat.reduceLT, Nat.reduceLeDiff, Nat.reduceBEq, Nat.reduceBNe, reduceIte, Int.reduceEq, Int.reduceLT, Int.reduceLE, Int.reduceNe, Int.reduceToNat, pks.1, sets.1, tick_on]
  refine orderP_of (by kernel_rfl) ?_
  simp -implicitDefEqProofs only [sims.1, fx.1, keeps.1, tick_on, calleeK, extractV, oneV, faddrK, nonnil, b_shr, b_shl, fieldK, Nat.reduceAdd, Nat.reduceMul, Nat.reduceSub, Nat.reduceEqDiff, Nat.reduceLT, Nat.reduceLeDiff, Nat.reduceBEq, Nat.reduceBNe, reduceIte, Int.reduceEq, Int.reduceLT, Int.reduceLE, Int.reduceNe, Int.reduceToNat, pks.1, sets.1, tick_on]
  refine orderP_of (by kernel_rfl) ?_
  simp -implicitDefEqProofs only [sims.1, fx.1, keeps.1, tick_on, calleeK, extractV, oneV, faddrK, nonnil, b_shr, b_shl, fieldK, Nat.reduceAdd, Nat.reduceMul, Nat.reduceSub, Nat.reduceEqDiff, Nat.reduceLT, Nat.reduceLeDiff, Nat.reduceBEq, Nat.reduceBNe, reduceIte, Int.reduceEq, Int.reduceLT, Int.reduceLE, Int.reduceNe, Int.reduceToNat, pks.1, sets.1, tick_on]
  rcases Nat.lt_or_ge l.length (12 + 2) with sh | sh
  · refine w_panicky 2 rfl ?_
    change runE _ _ (panHere _ _ _ _ (_ :: _)) _ _ (_ :: _ :: []) _ _
    simp -implicitDefEqProofs only [sims.1, fx.1, keeps.1, tick_on, calleeK, extractV, oneV, faddrK, nonnil, b_shr, b_shl, fieldK, Nat.reduceAdd, Nat.reduceMul, Nat.reduceSub, Nat.reduceEqDiff, Nat.reduceLT, Nat.reduceLeDiff, Nat.reduceBEq, Nat.reduceBNe, reduceIte, Int.reduceEq, Int.reduceLT, Int.reduceLE, Int.reduceNe, Int.reduceToNat, pks.1, sets.1, tick_on]
    refine p_here rfl ?_ ?_
    · repeat (first | (refine u_skip rfl ?_) | (refine u_go rfl rfl rfl rfl rfl rfl rfl (by kernel_rfl) ?_))
      exact u_nil
    · simp -implicitDefEqProofs only [sims.1, fx.1, keeps.1, tick_on, calleeK, extractV, oneV, faddrK, nonnil, b_shr, b_shl, fieldK, Nat.reduceAdd, Nat.reduceMul, Nat.reduceSub, Nat.reduceEqDiff, Nat.reduceLT, Nat.reduceLeDiff, Nat.reduceBEq, Nat.reduceBNe, reduceIte, Int.reduceEq, Int.reduceLT, Int.reduceLE, Int.reduceNe, Int.reduceToNat, pks.1, sets.1, tick_on]
      refine callP_num l (12) 2 rfl rfl (by omega) (by omega) ?_
      simp -implicitDefEqProofs only [sims.1, fx.1, keeps.1, tick_on, calleeK, extractV, oneV, faddrK, nonnil, b_shr, b_shl, fieldK, Nat.reduceAdd, Nat.reduceMul, Nat.reduceSub, Nat.reduceEqDiff, Nat.reduceLT, Nat.reduceLeDiff, Nat.reduceBEq, Nat.reduceBNe, reduceIte, Int.reduceEq, Int.reduceLT, Int.reduceLE, Int.reduceNe, Int.reduceToNat, pks.1, sets.1, tick_on]
      exact boom3 _ _ _ _ rfl rfl (qp_short (short14 (by omega)) _)
  refine w_noisy ?_
  simp -implicitDefEqProofs only [sims.1, fx.1, keeps.1, tick_on, calleeK, extractV, oneV, faddrK, nonnil, b_shr, b_shl, fieldK, Nat.reduceAdd, Nat.reduceMul, Nat.reduceSub, Nat.reduceEqDiff, Nat.reduceLT, Nat.reduceLeDiff, Nat.reduceBEq, Nat.reduceBNe, reduceIte, Int.reduceEq, Int.reduceLT, Int.reduceLE, Int.reduceNe, Int.reduceToNat, pks.1, sets.1, tick_on]
  refine callE_num l (12) 2 (14) hb rfl rfl (by omega) (by omega) (by omega) ⟨by kernel_rfl, ?_⟩
  simp -implicitDefEqProofs only [sims.1, fx.1, keeps.1, tick_on, calleeK, extractV, oneV, faddrK, nonnil, b_shr, b_shl, fieldK, Nat.reduceAdd, Nat.reduceMul, Nat.reduceSub, Nat.reduceEqDiff, Nat.reduceLT, Nat.reduceLeDiff, Nat.reduceBEq, Nat.reduceBNe, reduceIte, Int.reduceEq, Int.reduceLT, Int.reduceLE, Int.reduceNe, Int.reduceToNat, pks.1, sets.1, tick_on]
  refine orderP_of (by kernel_rfl) ?_
  simp -implicitDefEqProofs only [sims.1, fx.1, keeps.1, tick_on, calleeK, extractV, oneV, faddrK, nonnil, b_shr, b_shl, fieldK, Nat.reduceAdd, Nat.reduceMul, Nat.reduceSub, Nat.reduceEqDiff, Nat.reduceLT, Nat.reduceLeDiff, Nat.reduceBEq, Nat.reduceBNe, reduceIte, Int.reduceEq, Int.reduceLT, Int.reduceLE, Int.reduceNe, Int.reduceToNat, pks.1, sets.1, tick_on]
  have h14 : 14 ≤ l.length := by omega
  clear sh
  refine cutIf (C1 l) ?_ (fun t => ?_) (fun t => ?_)
  rotate_left
  · have t : tg l = true := t
    simp -implicitDefEqProofs only [sims.1, fx.1, keeps.1, tick_on, calleeK, extractV, oneV, faddrK, nonnil, b_shr, b_shl, fieldK, Nat.reduceAdd, Nat.reduceMul, Nat.reduceSub, Nat.reduceEqDiff, Nat.reduceLT, Nat.reduceLeDiff, Nat.reduceBEq, Nat.reduceBNe, reduceIte, Int.reduceEq, Int.reduceLT, Int.reduceLE, Int.reduceNe, Int.reduceToNat, pks.1, sets.1, tick_on]
    rcases Nat.lt_or_ge l.length (14 + 2) with sh | sh
    · refine w_panicky 3 rfl ?_
      change runE _ _ (panHere _ _ _ _ (_ :: _)) _ _ (_ :: _ :: _ :: []) _ _
      simp -implicitDefEqProofs only [sims.1, fx.1, keeps.1, tick_on, calleeK, extractV, oneV, faddrK, nonnil, b_shr, b_shl, fieldK, Nat.reduceAdd, Nat.reduceMul, Nat.reduceSub, Nat.reduceEqDiff, Nat.reduceLT, Nat.reduceLeDiff, Nat.reduceBEq, Nat.reduceBNe, reduceIte, Int.reduceEq, Int.reduceLT, Int.reduceLE, Int.reduceNe, Int.reduceToNat, pks.1, sets.1, tick_on]
      refine p_here rfl ?_ ?_
      · repeat (first | (refine u_skip rfl ?_) | (refine u_go rfl rfl rfl rfl rfl rfl rfl (by kernel_rfl) ?_))
        exact u_nil
      · simp -implicitDefEqProofs only [sims.1, fx.1, keeps.1, tick_on, calleeK, extractV, oneV, faddrK, nonnil, b_shr, b_shl, fieldK, Nat.reduceAdd, Nat.reduceMul, Nat.reduceSub, Nat.reduceEqDiff, Nat.reduceLT, Nat.reduceLeDiff, Nat.reduceBEq, Nat.reduceBNe, reduceIte, Int.reduceEq, Int.reduceLT, Int.reduceLE, Int.reduceNe, Int.reduceToNat, pks.1, sets.1, tick_on]
        refine callP_num l (14) 2 rfl rfl (by omega) (by omega) ?_
        simp -implicitDefEqProofs only [sims.1, fx.1, keeps.1, tick_on, calleeK, extractV, oneV, faddrK, nonnil, b_shr, b_shl, fieldK, Nat.reduceAdd, Nat.reduceMul, Nat.reduceSub, Nat.reduceEqDiff, Nat.reduceLT, Nat.reduceLeDiff, Nat.reduceBEq, Nat.reduceBNe, reduceIte, Int.reduceEq, Int.reduceLT, Int.reduceLE, Int.reduceNe, Int.reduceToNat, pks.1, sets.1, tick_on]
        exact boom3 _ _ _ _ rfl rfl (qp_short (short18 t (by omega)) _)
    rcases Nat.lt_or_ge l.length (16 + 2) with sh2 | sh2
    · refine w_panicky 5 rfl ?_
      change runE _ _ (panHere _ _ _ _ (_ :: _)) _ _ (_ :: _ :: _ :: _ :: _ :: []) _ _
      simp -implicitDefEqProofs only [sims.1, fx.1, keeps.1, tick_on, calleeK, extractV, oneV, faddrK, nonnil, b_shr, b_shl, fieldK, Nat.reduceAdd, Nat.reduceMul, Nat.reduceSub, Nat.reduceEqDiff, Nat.reduceLT, Nat.reduceLeDiff, Nat.reduceBEq, Nat.reduceBNe, reduceIte, Int.reduceEq, Int.reduceLT, Int.reduceLE, Int.reduceNe, Int.reduceToNat, pks.1, sets.1, tick_on]
      refine callE_num l (14) 2 (16) hb rfl rfl (by omega) (by omega) (by omega) ⟨by kernel_rfl, ?_⟩
      simp -implicitDefEqProofs only [sims.1, fx.1, keeps.1, tick_on, calleeK, extractV, oneV, faddrK, nonnil, b_shr, b_shl, fieldK, Nat.reduceAdd, Nat.reduceMul, Nat.reduceSub, Nat.reduceEqDiff, Nat.reduceLT, Nat.reduceLeDiff, Nat.reduceBEq, Nat.reduceBNe, reduceIte, Int.reduceEq, Int.reduceLT, Int.reduceLE, Int.reduceNe, Int.reduceToNat, pks.1, sets.1, tick_on]
      refine p_here rfl ?_ ?_
      · repeat (first | (refine u_skip rfl ?_) | (refine u_go rfl rfl rfl rfl rfl rfl rfl (by kernel_rfl) ?_))
        exact u_nil
      · simp -implicitDefEqProofs only [sims.1, fx.1, keeps.1, tick_on, calleeK, extractV, oneV, faddrK, nonnil, b_shr, b_shl, fieldK, Nat.reduceAdd, Nat.reduceMul, Nat.reduceSub, Nat.reduceEqDiff, Nat.reduceLT, Nat.reduceLeDiff, Nat.reduceBEq, Nat.reduceBNe, reduceIte, Int.reduceEq, Int.reduceLT, Int.reduceLE, Int.reduceNe, Int.reduceToNat, pks.1, sets.1, tick_on]
        refine callP_num l (16) 2 rfl rfl (by omega) (by omega) ?_
        simp -implicitDefEqProofs only [sims.1, fx.1, keeps.1, tick_on, calleeK, extractV, oneV, faddrK, nonnil, b_shr, b_shl, fieldK, Nat.reduceAdd, Nat.reduceMul, Nat.reduceSub, Nat.reduceEqDiff, Nat.reduceLT, Nat.reduceLeDiff, Nat.reduceBEq, Nat.reduceBNe, reduceIte, Int.reduceEq, Int.reduceLT, Int.reduceLE, Int.reduceNe, Int.reduceToNat, pks.1, sets.1, tick_on]
        exact boom3 _ _ _ _ rfl rfl (qp_short (short18 t (by omega)) _)
    refine w_noisy ?_
    simp -implicitDefEqProofs only [sims.1, fx.1, keeps.1, tick_on, calleeK, extractV, oneV, faddrK, nonnil, b_shr, b_shl, fieldK, Nat.reduceAdd, Nat.reduceMul, Nat.reduceSub, Nat.reduceEqDiff, Nat.reduceLT, Nat.reduceLeDiff, Nat.reduceBEq, Nat.reduceBNe, reduceIte, Int.reduceEq, Int.reduceLT, Int.reduceLE, Int.reduceNe, Int.reduceToNat, pks.1, sets.1, tick_on]
    refine callE_num l (14) 2 (16) hb rfl rfl (by omega) (by omega) (by omega) ⟨by kernel_rfl, ?_⟩
    simp -implicitDefEqProofs only [sims.1, fx.1, keeps.1, tick_on, calleeK, extractV, oneV, faddrK, nonnil, b_shr, b_shl, fieldK, Nat.reduceAdd, Nat.reduceMul, Nat.reduceSub, Nat.reduceEqDiff, Nat.reduceLT, Nat.reduceLeDiff, Nat.reduceBEq, Nat.reduceBNe, reduceIte, Int.reduceEq, Int.reduceLT, Int.reduceLE, Int.reduceNe, Int.reduceToNat, pks.1, sets.1, tick_on]
    refine callE_num l (16) 2 (18) hb rfl rfl (by omega) (by omega) (by omega) ⟨by kernel_rfl, ?_⟩
    simp -implicitDefEqProofs only [sims.1, fx.1, keeps.1, tick_on, calleeK, extractV, oneV, faddrK, nonnil, b_shr, b_shl, fieldK, Nat.reduceAdd, Nat.reduceMul, Nat.reduceSub, Nat.reduceEqDiff, Nat.reduceLT, Nat.reduceLeDiff, Nat.reduceBEq, Nat.reduceBNe, reduceIte, Int.reduceEq, Int.reduceLT, Int.reduceLE, Int.reduceNe, Int.reduceToNat, pks.1, sets.1, tick_on]
    refine orderP_of (by kernel_rfl) ?_
    simp -implicitDefEqProofs only [sims.1, fx.1, keeps.1, tick_on, calleeK, extractV, oneV, faddrK, nonnil, b_shr, b_shl, fieldK, Nat.reduceAdd, Nat.reduceMul, Nat.reduceSub, Nat.reduceEqDiff, Nat.reduceLT, Nat.reduceLeDiff, Nat.reduceBEq, Nat.reduceBNe, reduceIte, Int.reduceEq, Int.reduceLT, Int.reduceLE, Int.reduceNe, Int.reduceToNat, pks.1, sets.1, tick_on]
    refine orderP_of (by kernel_rfl) ?_
    simp -implicitDefEqProofs only [sims.1, fx.1, keeps.1, tick_on, calleeK, extractV, oneV, faddrK, nonnil, b_shr, b_shl, fieldK, Nat.reduceAdd, Nat.reduceMul, Nat.reduceSub, Nat.reduceEqDiff, Nat.reduceLT, Nat.reduceLeDiff, Nat.reduceBEq, Nat.reduceBNe, reduceIte, Int.reduceEq, Int.reduceLT, Int.reduceLE, Int.reduceNe, Int.reduceToNat, pks.1, sets.1, tick_on]
    have hp : po l = 18 := by simp only [po, t, cond_true]
    cases z : decide (gt l 14 2 = 0)
    · simp -implicitDefEqProofs only [sims.1, fx.1, keeps.1, tick_on, calleeK, extractV, oneV, faddrK, nonnil, b_shr, b_shl, fieldK, Nat.reduceAdd, Nat.reduceMul, Nat.reduceSub, Nat.reduceEqDiff, Nat.reduceLT, Nat.reduceLeDiff, Nat.reduceBEq, Nat.reduceBNe, reduceIte, Int.reduceEq, Int.reduceLT, Int.reduceLE, Int.reduceNe, Int.reduceToNat, pks.1, sets.1, tick_on, z]
      rw [pc_ext .nils (h3_tag t)]
      exact ⟨rfl, rfl, rfl, rfl, rfl, by rw [hp], by omega, by omega, fun _ => ⟨by omega, of_decide_eq_false z⟩⟩
    · simp -implicitDefEqProofs only [sims.1, fx.1, keeps.1, tick_on, calleeK, extractV, oneV, faddrK, nonnil, b_shr, b_shl, fieldK, Nat.reduceAdd, Nat.reduceMul, Nat.reduceSub, Nat.reduceEqDiff, Nat.reduceLT, Nat.reduceLeDiff, Nat.reduceBEq, Nat.reduceBNe, reduceIte, Int.reduceEq, Int.reduceLT, Int.reduceLE, Int.reduceNe, Int.reduceToNat, pks.1, sets.1, tick_on, z, bu103]
      exact boom3 _ _ _ _ rfl rfl (qp_short (vlan0 t (of_decide_eq_true z)) _)
  · have t : tg l = false := t
    simp -implicitDefEqProofs only [sims.1, fx.1, keeps.1, tick_on, calleeK, extractV, oneV, faddrK, nonnil, b_shr, b_shl, fieldK, Nat.reduceAdd, Nat.reduceMul, Nat.reduceSub, Nat.reduceEqDiff, Nat.reduceLT, Nat.reduceLeDiff, Nat.reduceBEq, Nat.reduceBNe, reduceIte, Int.reduceEq, Int.reduceLT, Int.reduceLE, Int.reduceNe, Int.reduceToNat, pks.1, sets.1, tick_on]
    have hp : po l = 14 := by simp only [po, t, cond_false]
    rw [pc_ext .nils (h3_no t)]
    exact ⟨rfl, rfl, rfl, rfl, rfl, by rw [hp], by omega, by omega, fun h => by rw [t] at h; cases h⟩
  rintro e m ⟨e0, e2, e3, e4, e5, rfl, hpo, hl14, htg⟩
  cases k1 : decide (kd l = 2054)
  · simp -implicitDefEqProofs only [sims.1, fx.1, keeps.1, tick_on, calleeK, extractV, oneV, faddrK, nonnil, b_shr, b_shl, fieldK, Nat.reduceAdd, Nat.reduceMul, Nat.reduceSub, Nat.reduceEqDiff, Nat.reduceLT, Nat.reduceLeDiff, Nat.reduceBEq, Nat.reduceBNe, reduceIte, Int.reduceEq, Int.reduceLT, Int.reduceLE, Int.reduceNe, Int.reduceToNat, pks.1, sets.1, tick_on, e0, e2, e3, e4, e5, h3_2, k1]
    refine cutIf (C2 l) ?_ (fun k2 => ?_) (fun k2 => ?_)
    rotate_left
    · have hneed : po l + 20 ≤ need l := by
        simp only [need, mr, k1, k2, cond_true, cond_false]
        cases decide (pr l = 6) <;> cases decide (pr l = 17) <;> simp
      have hpr : gt l (po l + 9) 1 = pr l := rfl
      simp -implicitDefEqProofs only [sims.1, fx.1, keeps.1, tick_on, calleeK, extractV, oneV, faddrK, nonnil, b_shr, b_shl, fieldK, Nat.reduceAdd, Nat.reduceMul, Nat.reduceSub, Nat.reduceEqDiff, Nat.reduceLT, Nat.reduceLeDiff, Nat.reduceBEq, Nat.reduceBNe, reduceIte, Int.reduceEq, Int.reduceLT, Int.reduceLE, Int.reduceNe, Int.reduceToNat, pks.1, sets.1, tick_on, e0, e2, e3, e4, e5, h3_2, k1, k2]
      refine callD_take l (po l) 9 (po l + 9) rfl rfl (by omega) (by omega) (fun sh => ?_) (fun sh => ?_)
      rotate_left
      · simp -implicitDefEqProofs only [sims.1, fx.1, keeps.1, tick_on, calleeK, extractV, oneV, faddrK, nonnil, b_shr, b_shl, fieldK, Nat.reduceAdd, Nat.reduceMul, Nat.reduceSub, Nat.reduceEqDiff, Nat.reduceLT, Nat.reduceLeDiff, Nat.reduceBEq, Nat.reduceBNe, reduceIte, Int.reduceEq, Int.reduceLT, Int.reduceLE, Int.reduceNe, Int.reduceToNat, pks.1, sets.1, tick_on, e0, e2, e3, e4, e5, h3_2, k1, k2]
        exact boom3 _ _ _ _ e2 e3 (qp_short (shortN (by omega)) _)
      simp -implicitDefEqProofs only [sims.1, fx.1, keeps.1, tick_on, calleeK, extractV, oneV, faddrK, nonnil, b_shr, b_shl, fieldK, Nat.reduceAdd, Nat.reduceMul, Nat.reduceSub, Nat.reduceEqDiff, Nat.reduceLT, Nat.reduceLeDiff, Nat.reduceBEq, Nat.reduceBNe, reduceIte, Int.reduceEq, Int.reduceLT, Int.reduceLE, Int.reduceNe, Int.reduceToNat, pks.1, sets.1, tick_on, e0, e2, e3, e4, e5, h3_2, k1, k2]
      rcases Nat.lt_or_ge l.length (po l + 9 + 1) with sh | sh
      · refine w_panicky 2 rfl ?_
        change runE _ _ (panHere _ _ _ _ (_ :: _)) _ _ (_ :: _ :: []) _ _
        simp -implicitDefEqProofs only [sims.1, fx.1, keeps.1, tick_on, calleeK, extractV, oneV, faddrK, nonnil, b_shr, b_shl, fieldK, Nat.reduceAdd, Nat.reduceMul, Nat.reduceSub, Nat.reduceEqDiff, Nat.reduceLT, Nat.reduceLeDiff, Nat.reduceBEq, Nat.reduceBNe, reduceIte, Int.reduceEq, Int.reduceLT, Int.reduceLE, Int.reduceNe, Int.reduceToNat, pks.1, sets.1, tick_on, e0, e2, e3, e4, e5, h3_2, k1, k2]
        refine p_here rfl ?_ ?_
        · repeat (first | (refine u_skip rfl ?_) | (refine u_go rfl rfl rfl rfl rfl rfl rfl (by kernel_rfl) ?_))
          exact u_nil
        · simp -implicitDefEqProofs only [sims.1, fx.1, keeps.1, tick_on, calleeK, extractV, oneV, faddrK, nonnil, b_shr, b_shl, fieldK, Nat.reduceAdd, Nat.reduceMul, Nat.reduceSub, Nat.reduceEqDiff, Nat.reduceLT, Nat.reduceLeDiff, Nat.reduceBEq, Nat.reduceBNe, reduceIte, Int.reduceEq, Int.reduceLT, Int.reduceLE, Int.reduceNe, Int.reduceToNat, pks.1, sets.1, tick_on, e0, e2, e3, e4, e5, h3_2, k1, k2]
          refine callP_num l (po l + 9) 1 rfl rfl (by omega) (by omega) ?_
          simp -implicitDefEqProofs only [sims.1, fx.1, keeps.1, tick_on, calleeK, extractV, oneV, faddrK, nonnil, b_shr, b_shl, fieldK, Nat.reduceAdd, Nat.reduceMul, Nat.reduceSub, Nat.reduceEqDiff, Nat.reduceLT, Nat.reduceLeDiff, Nat.reduceBEq, Nat.reduceBNe, reduceIte, Int.reduceEq, Int.reduceLT, Int.reduceLE, Int.reduceNe, Int.reduceToNat, pks.1, sets.1, tick_on, e0, e2, e3, e4, e5, h3_2, k1, k2]
          exact boom3 _ _ _ _ e2 e3 (qp_short (shortN (by omega)) _)
      refine w_noisy ?_
      simp -implicitDefEqProofs only [sims.1, fx.1, keeps.1, tick_on, calleeK, extractV, oneV, faddrK, nonnil, b_shr, b_shl, fieldK, Nat.reduceAdd, Nat.reduceMul, Nat.reduceSub, Nat.reduceEqDiff, Nat.reduceLT, Nat.reduceLeDiff, Nat.reduceBEq, Nat.reduceBNe, reduceIte, Int.reduceEq, Int.reduceLT, Int.reduceLE, Int.reduceNe, Int.reduceToNat, pks.1, sets.1, tick_on, e0, e2, e3, e4, e5, h3_2, k1, k2]
      refine callE_num l (po l + 9) 1 (po l + 10) hb rfl rfl (by omega) (by omega) (by omega) ⟨by kernel_rfl, ?_⟩
      simp -implicitDefEqProofs only [sims.1, fx.1, keeps.1, tick_on, calleeK, extractV, oneV, faddrK, nonnil, b_shr, b_shl, fieldK, Nat.reduceAdd, Nat.reduceMul, Nat.reduceSub, Nat.reduceEqDiff, Nat.reduceLT, Nat.reduceLeDiff, Nat.reduceBEq, Nat.reduceBNe, reduceIte, Int.reduceEq, Int.reduceLT, Int.reduceLE, Int.reduceNe, Int.reduceToNat, pks.1, sets.1, tick_on, e0, e2, e3, e4, e5, h3_2, k1, k2]
      refine orderP_of (by kernel_rfl) ?_
      simp -implicitDefEqProofs only [sims.1, fx.1, keeps.1, tick_on, calleeK, extractV, oneV, faddrK, nonnil, b_shr, b_shl, fieldK, Nat.reduceAdd, Nat.reduceMul, Nat.reduceSub, Nat.reduceEqDiff, Nat.reduceLT, Nat.reduceLeDiff, Nat.reduceBEq, Nat.reduceBNe, reduceIte, Int.reduceEq, Int.reduceLT, Int.reduceLE, Int.reduceNe, Int.reduceToNat, pks.1, sets.1, tick_on, e0, e2, e3, e4, e5, h3_2, k1, k2]
      refine callD_take l (po l + 10) 2 (po l + 12) rfl rfl (by omega) (by omega) (fun sh => ?_) (fun sh => ?_)
      rotate_left
      · simp -implicitDefEqProofs only [sims.1, fx.1, keeps.1, tick_on, calleeK, extractV, oneV, faddrK, nonnil, b_shr, b_shl, fieldK, Nat.reduceAdd, Nat.reduceMul, Nat.reduceSub, Nat.reduceEqDiff, Nat.reduceLT, Nat.reduceLeDiff, Nat.reduceBEq, Nat.reduceBNe, reduceIte, Int.reduceEq, Int.reduceLT, Int.reduceLE, Int.reduceNe, Int.reduceToNat, pks.1, sets.1, tick_on, e0, e2, e3, e4, e5, h3_2, k1, k2]
        exact boom3 _ _ _ _ e2 e3 (qp_short (shortN (by omega)) _)
      simp -implicitDefEqProofs only [sims.1, fx.1, keeps.1, tick_on, calleeK, extractV, oneV, faddrK, nonnil, b_shr, b_shl, fieldK, Nat.reduceAdd, Nat.reduceMul, Nat.reduceSub, Nat.reduceEqDiff, Nat.reduceLT, Nat.reduceLeDiff, Nat.reduceBEq, Nat.reduceBNe, reduceIte, Int.reduceEq, Int.reduceLT, Int.reduceLE, Int.reduceNe, Int.reduceToNat, pks.1, sets.1, tick_on, e0, e2, e3, e4, e5, h3_2, k1, k2]
      rcases Nat.lt_or_ge l.length (po l + 12 + 4) with sh | sh
      · refine w_panicky 3 rfl ?_
        change runE _ _ (panHere _ _ _ _ (_ :: _)) _ _ (_ :: _ :: _ :: []) _ _
        simp -implicitDefEqProofs only [sims.1, fx.1, keeps.1, tick_on, calleeK, extractV, oneV, faddrK, nonnil, b_shr, b_shl, fieldK, Nat.reduceAdd, Nat.reduceMul, Nat.reduceSub, Nat.reduceEqDiff, Nat.reduceLT, Nat.reduceLeDiff, Nat.reduceBEq, Nat.reduceBNe, reduceIte, Int.reduceEq, Int.reduceLT, Int.reduceLE, Int.reduceNe, Int.reduceToNat, pks.1, sets.1, tick_on, e0, e2, e3, e4, e5, h3_2, k1, k2]
        refine p_here rfl ?_ ?_
        · repeat (first | (refine u_skip rfl ?_) | (refine u_go rfl rfl rfl rfl rfl rfl rfl (by kernel_rfl) ?_))
          exact u_nil
        · simp -implicitDefEqProofs only [sims.1, fx.1, keeps.1, tick_on, calleeK, extractV, oneV, faddrK, nonnil, b_shr, b_shl, fieldK, Nat.reduceAdd, Nat.reduceMul, Nat.reduceSub, Nat.reduceEqDiff, Nat.reduceLT, Nat.reduceLeDiff, Nat.reduceBEq, Nat.reduceBNe, reduceIte, Int.reduceEq, Int.reduceLT, Int.reduceLE, Int.reduceNe, Int.reduceToNat, pks.1, sets.1, tick_on, e0, e2, e3, e4, e5, h3_2, k1, k2]
          refine callP_num l (po l + 12) 4 rfl rfl (by omega) (by omega) ?_
          simp -implicitDefEqProofs only [sims.1, fx.1, keeps.1, tick_on, calleeK, extractV, oneV, faddrK, nonnil, b_shr, b_shl, fieldK, Nat.reduceAdd, Nat.reduceMul, Nat.reduceSub, Nat.reduceEqDiff, Nat.reduceLT, Nat.reduceLeDiff, Nat.reduceBEq, Nat.reduceBNe, reduceIte, Int.reduceEq, Int.reduceLT, Int.reduceLE, Int.reduceNe, Int.reduceToNat, pks.1, sets.1, tick_on, e0, e2, e3, e4, e5, h3_2, k1, k2]
          exact boom3 _ _ _ _ e2 e3 (qp_short (shortN (by omega)) _)
      rcases Nat.lt_or_ge l.length (po l + 16 + 4) with sh2 | sh2
      · refine w_panicky 5 rfl ?_
        change runE _ _ (panHere _ _ _ _ (_ :: _)) _ _ (_ :: _ :: _ :: _ :: _ :: []) _ _
        simp -implicitDefEqProofs only [sims.1, fx.1, keeps.1, tick_on, calleeK, extractV, oneV, faddrK, nonnil, b_shr, b_shl, fieldK, Nat.reduceAdd, Nat.reduceMul, Nat.reduceSub, Nat.reduceEqDiff, Nat.reduceLT, Nat.reduceLeDiff, Nat.reduceBEq, Nat.reduceBNe, reduceIte, Int.reduceEq, Int.reduceLT, Int.reduceLE, Int.reduceNe, Int.reduceToNat, pks.1, sets.1, tick_on, e0, e2, e3, e4, e5, h3_2, k1, k2]
        refine callE_num l (po l + 12) 4 (po l + 16) hb rfl rfl (by omega) (by omega) (by omega) ⟨by kernel_rfl, ?_⟩
        simp -implicitDefEqProofs only [sims.1, fx.1, keeps.1, tick_on, calleeK, extractV, oneV, faddrK, nonnil, b_shr, b_shl, fieldK, Nat.reduceAdd, Nat.reduceMul, Nat.reduceSub, Nat.reduceEqDiff, Nat.reduceLT, Nat.reduceLeDiff, Nat.reduceBEq, Nat.reduceBNe, reduceIte, Int.reduceEq, Int.reduceLT, Int.reduceLE, Int.reduceNe, Int.reduceToNat, pks.1, sets.1, tick_on, e0, e2, e3, e4, e5, h3_2, k1, k2]
        refine p_here rfl ?_ ?_
        · repeat (first | (refine u_skip rfl ?_) | (refine u_go rfl rfl rfl rfl rfl rfl rfl (by kernel_rfl) ?_))
          exact u_nil
        · simp -implicitDefEqProofs only [sims.1, fx.1, keeps.1, tick_on, calleeK, extractV, oneV, faddrK, nonnil, b_shr, b_shl, fieldK, Nat.reduceAdd, Nat.reduceMul, Nat.reduceSub, Nat.reduceEqDiff, Nat.reduceLT, Nat.reduceLeDiff, Nat.reduceBEq, Nat.reduceBNe, reduceIte, Int.reduceEq, Int.reduceLT, Int.reduceLE, Int.reduceNe, Int.reduceToNat, pks.1, sets.1, tick_on, e0, e2, e3, e4, e5, h3_2, k1, k2]
          refine callP_num l (po l + 16) 4 rfl rfl (by omega) (by omega) ?_
          simp -implicitDefEqProofs only [sims.1, fx.1, keeps.1, tick_on, calleeK, extractV, oneV, faddrK, nonnil, b_shr, b_shl, fieldK, Nat.reduceAdd, Nat.reduceMul, Nat.reduceSub, Nat.reduceEqDiff, Nat.reduceLT, Nat.reduceLeDiff, Nat.reduceBEq, Nat.reduceBNe, reduceIte, Int.reduceEq, Int.reduceLT, Int.reduceLE, Int.reduceNe, Int.reduceToNat, pks.1, sets.1, tick_on, e0, e2, e3, e4, e5, h3_2, k1, k2]
          exact boom3 _ _ _ _ e2 e3 (qp_short (shortN (by omega)) _)
      refine w_noisy ?_
      simp -implicitDefEqProofs only [sims.1, fx.1, keeps.1, tick_on, calleeK, extractV, oneV, faddrK, nonnil, b_shr, b_shl, fieldK, Nat.reduceAdd, Nat.reduceMul, Nat.reduceSub, Nat.reduceEqDiff, Nat.reduceLT, Nat.reduceLeDiff, Nat.reduceBEq, Nat.reduceBNe, reduceIte, Int.reduceEq, Int.reduceLT, Int.reduceLE, Int.reduceNe, Int.reduceToNat, pks.1, sets.1, tick_on, e0, e2, e3, e4, e5, h3_2, k1, k2]
      refine callE_num l (po l + 12) 4 (po l + 16) hb rfl rfl (by omega) (by omega) (by omega) ⟨by kernel_rfl, ?_⟩
      simp -implicitDefEqProofs only [sims.1, fx.1, keeps.1, tick_on, calleeK, extractV, oneV, faddrK, nonnil, b_shr, b_shl, fieldK, Nat.reduceAdd, Nat.reduceMul, Nat.reduceSub, Nat.reduceEqDiff, Nat.reduceLT, Nat.reduceLeDiff, Nat.reduceBEq, Nat.reduceBNe, reduceIte, Int.reduceEq, Int.reduceLT, Int.reduceLE, Int.reduceNe, Int.reduceToNat, pks.1, sets.1, tick_on, e0, e2, e3, e4, e5, h3_2, k1, k2]
      refine callE_num l (po l + 16) 4 (po l + 20) hb rfl rfl (by omega) (by omega) (by omega) ⟨by kernel_rfl, ?_⟩
      simp -implicitDefEqProofs only [sims.1, fx.1, keeps.1, tick_on, calleeK, extractV, oneV, faddrK, nonnil, b_shr, b_shl, fieldK, Nat.reduceAdd, Nat.reduceMul, Nat.reduceSub, Nat.reduceEqDiff, Nat.reduceLT, Nat.reduceLeDiff, Nat.reduceBEq, Nat.reduceBNe, reduceIte, Int.reduceEq, Int.reduceLT, Int.reduceLE, Int.reduceNe, Int.reduceToNat, pks.1, sets.1, tick_on, e0, e2, e3, e4, e5, h3_2, k1, k2]
      refine orderP_of (by kernel_rfl) ?_
      simp -implicitDefEqProofs only [sims.1, fx.1, keeps.1, tick_on, calleeK, extractV, oneV, faddrK, nonnil, b_shr, b_shl, fieldK, Nat.reduceAdd, Nat.reduceMul, Nat.reduceSub, Nat.reduceEqDiff, Nat.reduceLT, Nat.reduceLeDiff, Nat.reduceBEq, Nat.reduceBNe, reduceIte, Int.reduceEq, Int.reduceLT, Int.reduceLE, Int.reduceNe, Int.reduceToNat, pks.1, sets.1, tick_on, e0, e2, e3, e4, e5, h3_2, k1, k2]
      refine orderP_of (by kernel_rfl) ?_
      simp -implicitDefEqProofs only [sims.1, fx.1, keeps.1, tick_on, calleeK, extractV, oneV, faddrK, nonnil, b_shr, b_shl, fieldK, Nat.reduceAdd, Nat.reduceMul, Nat.reduceSub, Nat.reduceEqDiff, Nat.reduceLT, Nat.reduceLeDiff, Nat.reduceBEq, Nat.reduceBNe, reduceIte, Int.reduceEq, Int.reduceLT, Int.reduceLE, Int.reduceNe, Int.reduceToNat, pks.1, sets.1, tick_on, e0, e2, e3, e4, e5, h3_2, k1, k2]
      rw [hpr]
      cases p1 : decide (pr l = 6)
      · cases p2 : decide (pr l = 17)
        · simp -implicitDefEqProofs only [sims.1, fx.1, keeps.1, tick_on, calleeK, extractV, oneV, faddrK, nonnil, b_shr, b_shl, fieldK, Nat.reduceAdd, Nat.reduceMul, Nat.reduceSub, Nat.reduceEqDiff, Nat.reduceLT, Nat.reduceLeDiff, Nat.reduceBEq, Nat.reduceBNe, reduceIte, Int.reduceEq, Int.reduceLT, Int.reduceLE, Int.reduceNe, Int.reduceToNat, pks.1, sets.1, tick_on, e0, e2, e3, e4, e5, h3_2, k1, k2, p1, p2]
          have hmr : mr l = 20 := by simp only [mr, k2, p1, p2, cond_true, cond_false]
          have hnd : need l = po l + 20 := by simp only [need, k1, hmr, cond_false]
          refine ⟨e0, e2, e3, e4, e5, _, fin_ip0 k1 k2 p1 p2, ?_, ok_of hl14 htg (by omega)⟩
          rw [hmr]
        · have hmr : mr l = 28 := by simp only [mr, k2, p1, p2, cond_true, cond_false]
          have hnd : need l = po l + 28 := by simp only [need, k1, hmr, cond_false]
          simp -implicitDefEqProofs only [sims.1, fx.1, keeps.1, tick_on, calleeK, extractV, oneV, faddrK, nonnil, b_shr, b_shl, fieldK, Nat.reduceAdd, Nat.reduceMul, Nat.reduceSub, Nat.reduceEqDiff, Nat.reduceLT, Nat.reduceLeDiff, Nat.reduceBEq, Nat.reduceBNe, reduceIte, Int.reduceEq, Int.reduceLT, Int.reduceLE, Int.reduceNe, Int.reduceToNat, pks.1, sets.1, tick_on, e0, e2, e3, e4, e5, h3_2, k1, k2, p1, p2]
          rcases Nat.lt_or_ge l.length (po l + 20 + 2) with sh | sh
          · refine w_panicky 3 rfl ?_
            change runE _ _ (panHere _ _ _ _ (_ :: _)) _ _ (_ :: _ :: _ :: []) _ _
            simp -implicitDefEqProofs only [sims.1, fx.1, keeps.1, tick_on, calleeK, extractV, oneV, faddrK, nonnil, b_shr, b_shl, fieldK, Nat.reduceAdd, Nat.reduceMul, Nat.reduceSub, Nat.reduceEqDiff, Nat.reduceLT, Nat.reduceLeDiff, Nat.reduceBEq, Nat.reduceBNe, reduceIte, Int.reduceEq, Int.reduceLT, Int.reduceLE, Int.reduceNe, Int.reduceToNat, pks.1, sets.1, tick_on, e0, e2, e3, e4, e5, h3_2, k1, k2, p1, p2]
            refine p_here rfl ?_ ?_
            · repeat (first | (refine u_skip rfl ?_) | (refine u_go rfl rfl rfl rfl rfl rfl rfl (by kernel_rfl) ?_))
              exact u_nil
            · simp -implicitDefEqProofs only [sims.1, fx.1, keeps.1, tick_on, calleeK, extractV, oneV, faddrK, nonnil, b_shr, b_shl, fieldK, Nat.reduceAdd, Nat.reduceMul, Nat.reduceSub, Nat.reduceEqDiff, Nat.reduceLT, Nat.reduceLeDiff, Nat.reduceBEq, Nat.reduceBNe, reduceIte, Int.reduceEq, Int.reduceLT, Int.reduceLE, Int.reduceNe, Int.reduceToNat, pks.1, sets.1, tick_on, e0, e2, e3, e4, e5, h3_2, k1, k2, p1, p2]
              refine callP_num l (po l + 20) 2 rfl rfl (by omega) (by omega) ?_
              simp -implicitDefEqProofs only [sims.1, fx.1, keeps.1, tick_on, calleeK, extractV, oneV, faddrK, nonnil, b_shr, b_shl, fieldK, Nat.reduceAdd, Nat.reduceMul, Nat.reduceSub, Nat.reduceEqDiff, Nat.reduceLT, Nat.reduceLeDiff, Nat.reduceBEq, Nat.reduceBNe, reduceIte, Int.reduceEq, Int.reduceLT, Int.reduceLE, Int.reduceNe, Int.reduceToNat, pks.1, sets.1, tick_on, e0, e2, e3, e4, e5, h3_2, k1, k2, p1, p2]
              exact boom3 _ _ _ _ e2 e3 (qp_short (shortN (by omega)) _)
          rcases Nat.lt_or_ge l.length (po l + 22 + 2) with sh2 | sh2
          · refine w_panicky 5 rfl ?_
            change runE _ _ (panHere _ _ _ _ (_ :: _)) _ _ (_ :: _ :: _ :: _ :: _ :: []) _ _
            simp -implicitDefEqProofs only [sims.1, fx.1, keeps.1, tick_on, calleeK, extractV, oneV, faddrK, nonnil, b_shr, b_shl, fieldK, Nat.reduceAdd, Nat.reduceMul, Nat.reduceSub, Nat.reduceEqDiff, Nat.reduceLT, Nat.reduceLeDiff, Nat.reduceBEq, Nat.reduceBNe, reduceIte, Int.reduceEq, Int.reduceLT, Int.reduceLE, Int.reduceNe, Int.reduceToNat, pks.1, sets.1, tick_on, e0, e2, e3, e4, e5, h3_2, k1, k2, p1, p2]
            refine callE_num l (po l + 20) 2 (po l + 22) hb rfl rfl (by omega) (by omega) (by omega) ⟨by kernel_rfl, ?_⟩
            simp -implicitDefEqProofs only [sims.1, fx.1, keeps.1, tick_on, calleeK, extractV, oneV, faddrK, nonnil, b_shr, b_shl, fieldK, Nat.reduceAdd, Nat.reduceMul, Nat.reduceSub, Nat.reduceEqDiff, Nat.reduceLT, Nat.reduceLeDiff, Nat.reduceBEq, Nat.reduceBNe, reduceIte, Int.reduceEq, Int.reduceLT, Int.reduceLE, Int.reduceNe, Int.reduceToNat, pks.1, sets.1, tick_on, e0, e2, e3, e4, e5, h3_2, k1, k2, p1, p2]
            refine p_here rfl ?_ ?_
            · repeat (first | (refine u_skip rfl ?_) | (refine u_go rfl rfl rfl rfl rfl rfl rfl (by kernel_rfl) ?_))
              exact u_nil
            · simp -implicitDefEqProofs only [sims.1, fx.1, keeps.1, tick_on, calleeK, extractV, oneV, faddrK, nonnil, b_shr, b_shl, fieldK, Nat.reduceAdd, Nat.reduceMul, Nat.reduceSub, Nat.reduceEqDiff, Nat.reduceLT, Nat.reduceLeDiff, Nat.reduceBEq, Nat.reduceBNe, reduceIte, Int.reduceEq, Int.reduceLT, Int.reduceLE, Int.reduceNe, Int.reduceToNat, pks.1, sets.1, tick_on, e0, e2, e3, e4, e5, h3_2, k1, k2, p1, p2]
              refine callP_num l (po l + 22) 2 rfl rfl (by omega) (by omega) ?_
              simp -implicitDefEqProofs only [sims.1, fx.1, keeps.1, tick_on, calleeK, extractV, oneV, faddrK, nonnil, b_shr, b_shl, fieldK, Nat.reduceAdd, Nat.reduceMul, Nat.reduceSub, Nat.reduceEqDiff, Nat.reduceLT, Nat.reduceLeDiff, Nat.reduceBEq, Nat.reduceBNe, reduceIte, Int.reduceEq, Int.reduceLT, Int.reduceLE, Int.reduceNe, Int.reduceToNat, pks.1, sets.1, tick_on, e0, e2, e3, e4, e5, h3_2, k1, k2, p1, p2]
              exact boom3 _ _ _ _ e2 e3 (qp_short (shortN (by omega)) _)
          refine w_noisy ?_
          simp -implicitDefEqProofs only [sims.1, fx.1, keeps.1, tick_on, calleeK, extractV, oneV, faddrK, nonnil, b_shr, b_shl, fieldK, Nat.reduceAdd, Nat.reduceMul, Nat.reduceSub, Nat.reduceEqDiff, Nat.reduceLT, Nat.reduceLeDiff, Nat.reduceBEq, Nat.reduceBNe, reduceIte, Int.reduceEq, Int.reduceLT, Int.reduceLE, Int.reduceNe, Int.reduceToNat, pks.1, sets.1, tick_on, e0, e2, e3, e4, e5, h3_2, k1, k2, p1, p2]
          refine callE_num l (po l + 20) 2 (po l + 22) hb rfl rfl (by omega) (by omega) (by omega) ⟨by kernel_rfl, ?_⟩
          simp -implicitDefEqProofs only [sims.1, fx.1, keeps.1, tick_on, calleeK, extractV, oneV, faddrK, nonnil, b_shr, b_shl, fieldK, Nat.reduceAdd, Nat.reduceMul, Nat.reduceSub, Nat.reduceEqDiff, Nat.reduceLT, Nat.reduceLeDiff, Nat.reduceBEq, Nat.reduceBNe, reduceIte, Int.reduceEq, Int.reduceLT, Int.reduceLE, Int.reduceNe, Int.reduceToNat, pks.1, sets.1, tick_on, e0, e2, e3, e4, e5, h3_2, k1, k2, p1, p2]
          refine callE_num l (po l + 22) 2 (po l + 24) hb rfl rfl (by omega) (by omega) (by omega) ⟨by kernel_rfl, ?_⟩
          simp -implicitDefEqProofs only [sims.1, fx.1, keeps.1, tick_on, calleeK, extractV, oneV, faddrK, nonnil, b_shr, b_shl, fieldK, Nat.reduceAdd, Nat.reduceMul, Nat.reduceSub, Nat.reduceEqDiff, Nat.reduceLT, Nat.reduceLeDiff, Nat.reduceBEq, Nat.reduceBNe, reduceIte, Int.reduceEq, Int.reduceLT, Int.reduceLE, Int.reduceNe, Int.reduceToNat, pks.1, sets.1, tick_on, e0, e2, e3, e4, e5, h3_2, k1, k2, p1, p2]
          refine orderP_of (by kernel_rfl) ?_
          simp -implicitDefEqProofs only [sims.1, fx.1, keeps.1, tick_on, calleeK, extractV, oneV, faddrK, nonnil, b_shr, b_shl, fieldK, Nat.reduceAdd, Nat.reduceMul, Nat.reduceSub, Nat.reduceEqDiff, Nat.reduceLT, Nat.reduceLeDiff, Nat.reduceBEq, Nat.reduceBNe, reduceIte, Int.reduceEq, Int.reduceLT, Int.reduceLE, Int.reduceNe, Int.reduceToNat, pks.1, sets.1, tick_on, e0, e2, e3, e4, e5, h3_2, k1, k2, p1, p2]
          refine orderP_of (by kernel_rfl) ?_
          simp -implicitDefEqProofs only [sims.1, fx.1, keeps.1, tick_on, calleeK, extractV, oneV, faddrK, nonnil, b_shr, b_shl, fieldK, Nat.reduceAdd, Nat.reduceMul, Nat.reduceSub, Nat.reduceEqDiff, Nat.reduceLT, Nat.reduceLeDiff, Nat.reduceBEq, Nat.reduceBNe, reduceIte, Int.reduceEq, Int.reduceLT, Int.reduceLE, Int.reduceNe, Int.reduceToNat, pks.1, sets.1, tick_on, e0, e2, e3, e4, e5, h3_2, k1, k2, p1, p2]
          refine callD_take l (po l + 24) 4 (po l + 28) rfl rfl (by omega) (by omega) (fun sh => ?_) (fun sh => ?_)
          rotate_left
          · simp -implicitDefEqProofs only [sims.1, fx.1, keeps.1, tick_on, calleeK, extractV, oneV, faddrK, nonnil, b_shr, b_shl, fieldK, Nat.reduceAdd, Nat.reduceMul, Nat.reduceSub, Nat.reduceEqDiff, Nat.reduceLT, Nat.reduceLeDiff, Nat.reduceBEq, Nat.reduceBNe, reduceIte, Int.reduceEq, Int.reduceLT, Int.reduceLE, Int.reduceNe, Int.reduceToNat, pks.1, sets.1, tick_on, e0, e2, e3, e4, e5, h3_2, k1, k2, p1, p2]
            exact boom3 _ _ _ _ e2 e3 (qp_short (shortN (by omega)) _)
          simp -implicitDefEqProofs only [sims.1, fx.1, keeps.1, tick_on, calleeK, extractV, oneV, faddrK, nonnil, b_shr, b_shl, fieldK, Nat.reduceAdd, Nat.reduceMul, Nat.reduceSub, Nat.reduceEqDiff, Nat.reduceLT, Nat.reduceLeDiff, Nat.reduceBEq, Nat.reduceBNe, reduceIte, Int.reduceEq, Int.reduceLT, Int.reduceLE, Int.reduceNe, Int.reduceToNat, pks.1, sets.1, tick_on, e0, e2, e3, e4, e5, h3_2, k1, k2, p1, p2]
          refine ⟨e0, e2, e3, e4, e5, _, fin_ip1 k1 k2 (by simp only [hasP, k2, p1, p2, Bool.and_self, Bool.or_true, Bool.true_and]), ?_, ok_of hl14 htg (by omega)⟩
          rw [hmr]
      · have hmr : mr l = 40 := by simp only [mr, k2, p1, cond_true, cond_false]
        have hnd : need l = po l + 40 := by simp only [need, k1, hmr, cond_false]
        simp -implicitDefEqProofs only [sims.1, fx.1, keeps.1, tick_on, calleeK, extractV, oneV, faddrK, nonnil, b_shr, b_shl, fieldK, Nat.reduceAdd, Nat.reduceMul, Nat.reduceSub, Nat.reduceEqDiff, Nat.reduceLT, Nat.reduceLeDiff, Nat.reduceBEq, Nat.reduceBNe, reduceIte, Int.reduceEq, Int.reduceLT, Int.reduceLE, Int.reduceNe, Int.reduceToNat, pks.1, sets.1, tick_on, e0, e2, e3, e4, e5, h3_2, k1, k2, p1]
        rcases Nat.lt_or_ge l.length (po l + 20 + 2) with sh | sh
        · refine w_panicky 3 rfl ?_
          change runE _ _ (panHere _ _ _ _ (_ :: _)) _ _ (_ :: _ :: _ :: []) _ _
          simp -implicitDefEqProofs only [sims.1, fx.1, keeps.1, tick_on, calleeK, extractV, oneV, faddrK, nonnil, b_shr, b_shl, fieldK, Nat.reduceAdd, Nat.reduceMul, Nat.reduceSub, Nat.reduceEqDiff, Nat.reduceLT, Nat.reduceLeDiff, Nat.reduceBEq, Nat.reduceBNe, reduceIte, Int.reduceEq, Int.reduceLT, Int.reduceLE, Int.reduceNe, Int.reduceToNat, pks.1, sets.1, tick_on, e0, e2, e3, e4, e5, h3_2, k1, k2, p1]
          refine p_here rfl ?_ ?_
          · repeat (first | (refine u_skip rfl ?_) | (refine u_go rfl rfl rfl rfl rfl rfl rfl (by kernel_rfl) ?_))
            exact u_nil
          · simp -implicitDefEqProofs only [sims.1, fx.1, keeps.1, tick_on, calleeK, extractV, oneV, faddrK, nonnil, b_shr, b_shl, fieldK, Nat.reduceAdd, Nat.reduceMul, Nat.reduceSub, Nat.reduceEqDiff, Nat.reduceLT, Nat.reduceLeDiff, Nat.reduceBEq, Nat.reduceBNe, reduceIte, Int.reduceEq, Int.reduceLT, Int.reduceLE, Int.reduceNe, Int.reduceToNat, pks.1, sets.1, tick_on, e0, e2, e3, e4, e5, h3_2, k1, k2, p1]
            refine callP_num l (po l + 20) 2 rfl rfl (by omega) (by omega) ?_
            simp -implicitDefEqProofs only [sims.1, fx.1, keeps.1, tick_on, calleeK, extractV, oneV, faddrK, nonnil, b_shr, b_shl, fieldK, Nat.reduceAdd, Nat.reduceMul, Nat.reduceSub, Nat.reduceEqDiff, Nat.reduceLT, Nat.reduceLeDiff, Nat.reduceBEq, Nat.reduceBNe, reduceIte, Int.reduceEq, Int.reduceLT, Int.reduceLE, Int.reduceNe, Int.reduceToNat, pks.1, sets.1, tick_on, e0, e2, e3, e4, e5, h3_2, k1, k2, p1]
            exact boom3 _ _ _ _ e2 e3 (qp_short (shortN (by omega)) _)
        rcases Nat.lt_or_ge l.length (po l + 22 + 2) with sh2 | sh2
        · refine w_panicky 5 rfl ?_
          change runE _ _ (panHere _ _ _ _ (_ :: _)) _ _ (_ :: _ :: _ :: _ :: _ :: []) _ _
          simp -implicitDefEqProofs only [sims.1, fx.1, keeps.1, tick_on, calleeK, extractV, oneV, faddrK, nonnil, b_shr, b_shl, fieldK, Nat.reduceAdd, Nat.reduceMul, Nat.reduceSub, Nat.reduceEqDiff, Nat.reduceLT, Nat.reduceLeDiff, Nat.reduceBEq, Nat.reduceBNe, reduceIte, Int.reduceEq, Int.reduceLT, Int.reduceLE, Int.reduceNe, Int.reduceToNat, pks.1, sets.1, tick_on, e0, e2, e3, e4, e5, h3_2, k1, k2, p1]
          refine callE_num l (po l + 20) 2 (po l + 22) hb rfl rfl (by omega) (by omega) (by omega) ⟨by kernel_rfl, ?_⟩
          simp -implicitDefEqProofs only [sims.1, fx.1, keeps.1, tick_on, calleeK, extractV, oneV, faddrK, nonnil, b_shr, b_shl, fieldK, Nat.reduceAdd, Nat.reduceMul, Nat.reduceSub, Nat.reduceEqDiff, Nat.reduceLT, Nat.reduceLeDiff, Nat.reduceBEq, Nat.reduceBNe, reduceIte, Int.reduceEq, Int.reduceLT, Int.reduceLE, Int.reduceNe, Int.reduceToNat, pks.1, sets.1, tick_on, e0, e2, e3, e4, e5, h3_2, k1, k2, p1]
          refine p_here rfl ?_ ?_
          · repeat (first | (refine u_skip rfl ?_) | (refine u_go rfl rfl rfl rfl rfl rfl rfl (by kernel_rfl) ?_))
            exact u_nil
          · simp -implicitDefEqProofs only [sims.1, fx.1, keeps.1, tick_on, calleeK, extractV, oneV, faddrK, nonnil, b_shr, b_shl, fieldK, Nat.reduceAdd, Nat.reduceMul, Nat.reduceSub, Nat.reduceEqDiff, Nat.reduceLT, Nat.reduceLeDiff, Nat.reduceBEq, Nat.reduceBNe, reduceIte, Int.reduceEq, Int.reduceLT, Int.reduceLE, Int.reduceNe, Int.reduceToNat, pks.1, sets.1, tick_on, e0, e2, e3, e4, e5, h3_2, k1, k2, p1]
            refine callP_num l (po l + 22) 2 rfl rfl (by omega) (by omega) ?_
            simp -implicitDefEqProofs only [sims.1, fx.1, keeps.1, tick_on, calleeK, extractV, oneV, faddrK, nonnil, b_shr, b_shl, fieldK, Nat.reduceAdd, Nat.reduceMul, Nat.reduceSub, Nat.reduceEqDiff, Nat.reduceLT, Nat.reduceLeDiff, Nat.reduceBEq, Nat.reduceBNe, reduceIte, Int.reduceEq, Int.reduceLT, Int.reduceLE, Int.reduceNe, Int.reduceToNat, pks.1, sets.1, tick_on, e0, e2, e3, e4, e5, h3_2, k1, k2, p1]
            exact boom3 _ _ _ _ e2 e3 (qp_short (shortN (by omega)) _)
        refine w_noisy ?_
        simp -implicitDefEqProofs only [sims.1, fx.1, keeps.1, tick_on, calleeK, extractV, oneV, faddrK, nonnil, b_shr, b_shl, fieldK, Nat.reduceAdd, Nat.reduceMul, Nat.reduceSub, Nat.reduceEqDiff, Nat.reduceLT, Nat.reduceLeDiff, Nat.reduceBEq, Nat.reduceBNe, reduceIte, Int.reduceEq, Int.reduceLT, Int.reduceLE, Int.reduceNe, Int.reduceToNat, pks.1, sets.1, tick_on, e0, e2, e3, e4, e5, h3_2, k1, k2, p1]
        refine callE_num l (po l + 20) 2 (po l + 22) hb rfl rfl (by omega) (by omega) (by omega) ⟨by kernel_rfl, ?_⟩
        simp -implicitDefEqProofs only [sims.1, fx.1, keeps.1, tick_on, calleeK, extractV, oneV, faddrK, nonnil, b_shr, b_shl, fieldK, Nat.reduceAdd, Nat.reduceMul, Nat.reduceSub, Nat.reduceEqDiff, Nat.reduceLT, Nat.reduceLeDiff, Nat.reduceBEq, Nat.reduceBNe, reduceIte, Int.reduceEq, Int.reduceLT, Int.reduceLE, Int.reduceNe, Int.reduceToNat, pks.1, sets.1, tick_on, e0, e2, e3, e4, e5, h3_2, k1, k2, p1]
        refine callE_num l (po l + 22) 2 (po l + 24) hb rfl rfl (by omega) (by omega) (by omega) ⟨by kernel_rfl, ?_⟩
        simp -implicitDefEqProofs only [sims.1, fx.1, keeps.1, tick_on, calleeK, extractV, oneV, faddrK, nonnil, b_shr, b_shl, fieldK, Nat.reduceAdd, Nat.reduceMul, Nat.reduceSub, Nat.reduceEqDiff, Nat.reduceLT, Nat.reduceLeDiff, Nat.reduceBEq, Nat.reduceBNe, reduceIte, Int.reduceEq, Int.reduceLT, Int.reduceLE, Int.reduceNe, Int.reduceToNat, pks.1, sets.1, tick_on, e0, e2, e3, e4, e5, h3_2, k1, k2, p1]
        refine orderP_of (by kernel_rfl) ?_
        simp -implicitDefEqProofs only [sims.1, fx.1, keeps.1, tick_on, calleeK, extractV, oneV, faddrK, nonnil, b_shr, b_shl, fieldK, Nat.reduceAdd, Nat.reduceMul, Nat.reduceSub, Nat.reduceEqDiff, Nat.reduceLT, Nat.reduceLeDiff, Nat.reduceBEq, Nat.reduceBNe, reduceIte, Int.reduceEq, Int.reduceLT, Int.reduceLE, Int.reduceNe, Int.reduceToNat, pks.1, sets.1, tick_on, e0, e2, e3, e4, e5, h3_2, k1, k2, p1]
        refine orderP_of (by kernel_rfl) ?_
        simp -implicitDefEqProofs only [sims.1, fx.1, keeps.1, tick_on, calleeK, extractV, oneV, faddrK, nonnil, b_shr, b_shl, fieldK, Nat.reduceAdd, Nat.reduceMul, Nat.reduceSub, Nat.reduceEqDiff, Nat.reduceLT, Nat.reduceLeDiff, Nat.reduceBEq, Nat.reduceBNe, reduceIte, Int.reduceEq, Int.reduceLT, Int.reduceLE, Int.reduceNe, Int.reduceToNat, pks.1, sets.1, tick_on, e0, e2, e3, e4, e5, h3_2, k1, k2, p1]
        refine callD_take l (po l + 24) 16 (po l + 40) rfl rfl (by omega) (by omega) (fun sh => ?_) (fun sh => ?_)
        rotate_left
        · simp -implicitDefEqProofs only [sims.1, fx.1, keeps.1, tick_on, calleeK, extractV, oneV, faddrK, nonnil, b_shr, b_shl, fieldK, Nat.reduceAdd, Nat.reduceMul, Nat.reduceSub, Nat.reduceEqDiff, Nat.reduceLT, Nat.reduceLeDiff, Nat.reduceBEq, Nat.reduceBNe, reduceIte, Int.reduceEq, Int.reduceLT, Int.reduceLE, Int.reduceNe, Int.reduceToNat, pks.1, sets.1, tick_on, e0, e2, e3, e4, e5, h3_2, k1, k2, p1]
          exact boom3 _ _ _ _ e2 e3 (qp_short (shortN (by omega)) _)
        simp -implicitDefEqProofs only [sims.1, fx.1, keeps.1, tick_on, calleeK, extractV, oneV, faddrK, nonnil, b_shr, b_shl, fieldK, Nat.reduceAdd, Nat.reduceMul, Nat.reduceSub, Nat.reduceEqDiff, Nat.reduceLT, Nat.reduceLeDiff, Nat.reduceBEq, Nat.reduceBNe, reduceIte, Int.reduceEq, Int.reduceLT, Int.reduceLE, Int.reduceNe, Int.reduceToNat, pks.1, sets.1, tick_on, e0, e2, e3, e4, e5, h3_2, k1, k2, p1]
        refine ⟨e0, e2, e3, e4, e5, _, fin_ip1 k1 k2 (by simp only [hasP, k2, p1, Bool.and_self, Bool.true_or, Bool.true_and]), ?_, ok_of hl14 htg (by omega)⟩
        rw [hmr]
    · simp -implicitDefEqProofs only [sims.1, fx.1, keeps.1, tick_on, calleeK, extractV, oneV, faddrK, nonnil, b_shr, b_shl, fieldK, Nat.reduceAdd, Nat.reduceMul, Nat.reduceSub, Nat.reduceEqDiff, Nat.reduceLT, Nat.reduceLeDiff, Nat.reduceBEq, Nat.reduceBNe, reduceIte, Int.reduceEq, Int.reduceLT, Int.reduceLE, Int.reduceNe, Int.reduceToNat, pks.1, sets.1, tick_on, e0, e2, e3, e4, e5, h3_2, k1, k2]
      have hmr : mr l = 0 := by simp only [mr, k2, cond_false]
      have hnd : need l = po l := by simp only [need, k1, hmr, cond_false, Nat.add_zero]
      refine ⟨e0, e2, e3, e4, e5, _, fin_oth k1 k2, ?_, ok_of hl14 htg (by omega)⟩
      rw [hmr, Nat.add_zero]
    clear e0 e2 e3 e4 e5
    rintro e m ⟨e0, e2, e3, e4, e5, H, hH, rfl, hok⟩
    rw [pc_ext .nils hH]
    have k3 : decide (rdH l 2 = 2054) = false := k1
    have hB : rdB l = l.drop (po l + mr l) := by simp only [rdB, k1, cond_false]
    rw [← hB]
    simp -implicitDefEqProofs only [sims.1, fx.1, keeps.1, tick_on, calleeK, extractV, oneV, faddrK, nonnil, b_shr, b_shl, fieldK, Nat.reduceAdd, Nat.reduceMul, Nat.reduceSub, Nat.reduceEqDiff, Nat.reduceLT, Nat.reduceLeDiff, Nat.reduceBEq, Nat.reduceBNe, reduceIte, Int.reduceEq, Int.reduceLT, Int.reduceLE, Int.reduceNe, Int.reduceToNat, pks.1, sets.1, tick_on, e0, e2, e3, e4, e5, k3, bsl0]
    rw [apB [] (rdB l)]
    rotate_left
    · exact ct_by
    · rfl
    · rfl
    · omega
    · have := rdB_len l; omega
    simp -implicitDefEqProofs only [sims.1, fx.1, keeps.1, tick_on, calleeK, extractV, oneV, faddrK, nonnil, b_shr, b_shl, fieldK, Nat.reduceAdd, Nat.reduceMul, Nat.reduceSub, Nat.reduceEqDiff, Nat.reduceLT, Nat.reduceLeDiff, Nat.reduceBEq, Nat.reduceBNe, reduceIte, Int.reduceEq, Int.reduceLT, Int.reduceLE, Int.reduceNe, Int.reduceToNat, pks.1, sets.1, tick_on, e0, e2, e3, e4, e5, k3, bsl0, Nat.zero_add]
    refine callD_pk (ansB35 (rdH l) (rdB l) (rdH_u64 hb) (rdB_lt hb) (by have := rdB_len l; omega)) en35 (by simp only [nf, nfs, nf_by, Bool.and_self]) rfl rfl ?_
    cases b0 : decide (bldF (rdH l) (rdB l) = 0)
    · simp -implicitDefEqProofs only [sims.1, fx.1, keeps.1, tick_on, calleeK, extractV, oneV, faddrK, nonnil, b_shr, b_shl, fieldK, Nat.reduceAdd, Nat.reduceMul, Nat.reduceSub, Nat.reduceEqDiff, Nat.reduceLT, Nat.reduceLeDiff, Nat.reduceBEq, Nat.reduceBNe, reduceIte, Int.reduceEq, Int.reduceLT, Int.reduceLE, Int.reduceNe, Int.reduceToNat, pks.1, sets.1, tick_on, e0, e2, e3, e4, e5, b0]
      exact retD zH .nils 30 e2 e3 rfl rfl (qp_err (by simp only [prsK, b0, Bool.false_and, Bool.and_false]) _)
    · simp -implicitDefEqProofs only [sims.1, fx.1, keeps.1, tick_on, calleeK, extractV, oneV, faddrK, nonnil, b_shr, b_shl, fieldK, Nat.reduceAdd, Nat.reduceMul, Nat.reduceSub, Nat.reduceEqDiff, Nat.reduceLT, Nat.reduceLeDiff, Nat.reduceBEq, Nat.reduceBNe, reduceIte, Int.reduceEq, Int.reduceLT, Int.reduceLE, Int.reduceNe, Int.reduceToNat, pks.1, sets.1, tick_on, e0, e2, e3, e4, e5, b0]
      refine callD_ans (ans40 (bldO (rdH l) (rdB l)) l (bldO_lt _ _ (rdB_lt hb)) hb) en40 (by simp only [nfs, nf_by, Bool.and_self]) rfl ?_
      have hO : bldO (rdH l) (rdB l) = frmR (rdH l) (rdB l) := by simp only [bldO, b0, cond_true]
      rw [hO]
      cases b1 : decide (frmR (rdH l) (rdB l) = l)
      · simp -implicitDefEqProofs only [sims.1, fx.1, keeps.1, tick_on, calleeK, extractV, oneV, faddrK, nonnil, b_shr, b_shl, fieldK, Nat.reduceAdd, Nat.reduceMul, Nat.reduceSub, Nat.reduceEqDiff, Nat.reduceLT, Nat.reduceLeDiff, Nat.reduceBEq, Nat.reduceBNe, reduceIte, Int.reduceEq, Int.reduceLT, Int.reduceLE, Int.reduceNe, Int.reduceToNat, pks.1, sets.1, tick_on, e0, e2, e3, e4, e5, b0, b1]
        exact retD zH .nils 30 e2 e3 rfl rfl (qp_err (by simp only [prsK, b1, Bool.and_false]) _)
      · simp -implicitDefEqProofs only [sims.1, fx.1, keeps.1, tick_on, calleeK, extractV, oneV, faddrK, nonnil, b_shr, b_shl, fieldK, Nat.reduceAdd, Nat.reduceMul, Nat.reduceSub, Nat.reduceEqDiff, Nat.reduceLT, Nat.reduceLeDiff, Nat.reduceBEq, Nat.reduceBNe, reduceIte, Int.reduceEq, Int.reduceLT, Int.reduceLE, Int.reduceNe, Int.reduceToNat, pks.1, sets.1, tick_on, e0, e2, e3, e4, e5, b0, b1]
        exact retD (rdH l) (.sl 1 4 0 (rdB l).length) 0 e2 e3 rfl rfl (qp_ok (by simp only [prsK, hok, b0, b1, Bool.and_self]) (fun _ _ => rfl) rfl rfl)
  · have hneed : need l = po l + 28 := by simp only [need, k1, cond_true]
    simp -implicitDefEqProofs only [sims.1, fx.1, keeps.1, tick_on, calleeK, extractV, oneV, faddrK, nonnil, b_shr, b_shl, fieldK, Nat.reduceAdd, Nat.reduceMul, Nat.reduceSub, Nat.reduceEqDiff, Nat.reduceLT, Nat.reduceLeDiff, Nat.reduceBEq, Nat.reduceBNe, reduceIte, Int.reduceEq, Int.reduceLT, Int.reduceLE, Int.reduceNe, Int.reduceToNat, pks.1, sets.1, tick_on, e0, e2, e3, e4, e5, h3_2, k1]
    refine callD_take l (po l) 7 (po l + 7) rfl rfl (by omega) (by omega) (fun sh => ?_) (fun sh => ?_)
    rotate_left
    · simp -implicitDefEqProofs only [sims.1, fx.1, keeps.1, tick_on, calleeK, extractV, oneV, faddrK, nonnil, b_shr, b_shl, fieldK, Nat.reduceAdd, Nat.reduceMul, Nat.reduceSub, Nat.reduceEqDiff, Nat.reduceLT, Nat.reduceLeDiff, Nat.reduceBEq, Nat.reduceBNe, reduceIte, Int.reduceEq, Int.reduceLT, Int.reduceLE, Int.reduceNe, Int.reduceToNat, pks.1, sets.1, tick_on, e0, e2, e3, e4, e5, h3_2, k1]
      exact boom3 _ _ _ _ e2 e3 (qp_short (shortN (by omega)) _)
    simp -implicitDefEqProofs only [sims.1, fx.1, keeps.1, tick_on, calleeK, extractV, oneV, faddrK, nonnil, b_shr, b_shl, fieldK, Nat.reduceAdd, Nat.reduceMul, Nat.reduceSub, Nat.reduceEqDiff, Nat.reduceLT, Nat.reduceLeDiff, Nat.reduceBEq, Nat.reduceBNe, reduceIte, Int.reduceEq, Int.reduceLT, Int.reduceLE, Int.reduceNe, Int.reduceToNat, pks.1, sets.1, tick_on, e0, e2, e3, e4, e5, h3_2, k1]
    rcases Nat.lt_or_ge l.length (po l + 7 + 1) with sh | sh
    · refine w_panicky 3 rfl ?_
      change runE _ _ (panHere _ _ _ _ (_ :: _)) _ _ (_ :: _ :: _ :: []) _ _
      simp -implicitDefEqProofs only [sims.1, fx.1, keeps.1, tick_on, calleeK, extractV, oneV, faddrK, nonnil, b_shr, b_shl, fieldK, Nat.reduceAdd, Nat.reduceMul, Nat.reduceSub, Nat.reduceEqDiff, Nat.reduceLT, Nat.reduceLeDiff, Nat.reduceBEq, Nat.reduceBNe, reduceIte, Int.reduceEq, Int.reduceLT, Int.reduceLE, Int.reduceNe, Int.reduceToNat, pks.1, sets.1, tick_on, e0, e2, e3, e4, e5, h3_2, k1]
      refine orderP_of (by kernel_rfl) ?_
      simp -implicitDefEqProofs only [sims.1, fx.1, keeps.1, tick_on, calleeK, extractV, oneV, faddrK, nonnil, b_shr, b_shl, fieldK, Nat.reduceAdd, Nat.reduceMul, Nat.reduceSub, Nat.reduceEqDiff, Nat.reduceLT, Nat.reduceLeDiff, Nat.reduceBEq, Nat.reduceBNe, reduceIte, Int.reduceEq, Int.reduceLT, Int.reduceLE, Int.reduceNe, Int.reduceToNat, pks.1, sets.1, tick_on, e0, e2, e3, e4, e5, h3_2, k1]
      refine p_here rfl ?_ ?_
      · repeat (first | (refine u_skip rfl ?_) | (refine u_go rfl rfl rfl rfl rfl rfl rfl (by kernel_rfl) ?_))
        exact u_nil
      · simp -implicitDefEqProofs only [sims.1, fx.1, keeps.1, tick_on, calleeK, extractV, oneV, faddrK, nonnil, b_shr, b_shl, fieldK, Nat.reduceAdd, Nat.reduceMul, Nat.reduceSub, Nat.reduceEqDiff, Nat.reduceLT, Nat.reduceLeDiff, Nat.reduceBEq, Nat.reduceBNe, reduceIte, Int.reduceEq, Int.reduceLT, Int.reduceLE, Int.reduceNe, Int.reduceToNat, pks.1, sets.1, tick_on, e0, e2, e3, e4, e5, h3_2, k1]
        refine callP_take l (po l + 7) 1 rfl rfl (by omega) (by omega) ?_
        simp -implicitDefEqProofs only [sims.1, fx.1, keeps.1, tick_on, calleeK, extractV, oneV, faddrK, nonnil, b_shr, b_shl, fieldK, Nat.reduceAdd, Nat.reduceMul, Nat.reduceSub, Nat.reduceEqDiff, Nat.reduceLT, Nat.reduceLeDiff, Nat.reduceBEq, Nat.reduceBNe, reduceIte, Int.reduceEq, Int.reduceLT, Int.reduceLE, Int.reduceNe, Int.reduceToNat, pks.1, sets.1, tick_on, e0, e2, e3, e4, e5, h3_2, k1]
        exact boom3 _ _ _ _ e2 e3 (qp_short (shortN (by omega)) _)
    refine w_noisy ?_
    simp -implicitDefEqProofs only [sims.1, fx.1, keeps.1, tick_on, calleeK, extractV, oneV, faddrK, nonnil, b_shr, b_shl, fieldK, Nat.reduceAdd, Nat.reduceMul, Nat.reduceSub, Nat.reduceEqDiff, Nat.reduceLT, Nat.reduceLeDiff, Nat.reduceBEq, Nat.reduceBNe, reduceIte, Int.reduceEq, Int.reduceLT, Int.reduceLE, Int.reduceNe, Int.reduceToNat, pks.1, sets.1, tick_on, e0, e2, e3, e4, e5, h3_2, k1]
    refine orderP_of (by kernel_rfl) ?_
    simp -implicitDefEqProofs only [sims.1, fx.1, keeps.1, tick_on, calleeK, extractV, oneV, faddrK, nonnil, b_shr, b_shl, fieldK, Nat.reduceAdd, Nat.reduceMul, Nat.reduceSub, Nat.reduceEqDiff, Nat.reduceLT, Nat.reduceLeDiff, Nat.reduceBEq, Nat.reduceBNe, reduceIte, Int.reduceEq, Int.reduceLT, Int.reduceLE, Int.reduceNe, Int.reduceToNat, pks.1, sets.1, tick_on, e0, e2, e3, e4, e5, h3_2, k1]
    refine callE_take l (po l + 7) 1 (po l + 8) rfl rfl (by omega) (by omega) ⟨by kernel_rfl, ?_⟩
    simp -implicitDefEqProofs only [sims.1, fx.1, keeps.1, tick_on, calleeK, extractV, oneV, faddrK, nonnil, b_shr, b_shl, fieldK, Nat.reduceAdd, Nat.reduceMul, Nat.reduceSub, Nat.reduceEqDiff, Nat.reduceLT, Nat.reduceLeDiff, Nat.reduceBEq, Nat.reduceBNe, reduceIte, Int.reduceEq, Int.reduceLT, Int.reduceLE, Int.reduceNe, Int.reduceToNat, pks.1, sets.1, tick_on, e0, e2, e3, e4, e5, h3_2, k1]
    have hB : rdB l = (l.drop (po l + 7)).take 1 := by simp only [rdB, k1, cond_true]
    have hB1 : (rdB l).length = 1 := by rw [hB]; simp; omega
    rw [← hB]
    rw [apN (rdB l)]
    rotate_left
    · exact ct_by
    · intro h; rw [h] at hB1; cases hB1
    · omega
    simp -implicitDefEqProofs only [sims.1, fx.1, keeps.1, tick_on, calleeK, extractV, oneV, faddrK, nonnil, b_shr, b_shl, fieldK, Nat.reduceAdd, Nat.reduceMul, Nat.reduceSub, Nat.reduceEqDiff, Nat.reduceLT, Nat.reduceLeDiff, Nat.reduceBEq, Nat.reduceBNe, reduceIte, Int.reduceEq, Int.reduceLT, Int.reduceLE, Int.reduceNe, Int.reduceToNat, pks.1, sets.1, tick_on, e0, e2, e3, e4, e5, h3_2, k1]
    refine orderP_of (by kernel_rfl) ?_
    simp -implicitDefEqProofs only [sims.1, fx.1, keeps.1, tick_on, calleeK, extractV, oneV, faddrK, nonnil, b_shr, b_shl, fieldK, Nat.reduceAdd, Nat.reduceMul, Nat.reduceSub, Nat.reduceEqDiff, Nat.reduceLT, Nat.reduceLeDiff, Nat.reduceBEq, Nat.reduceBNe, reduceIte, Int.reduceEq, Int.reduceLT, Int.reduceLE, Int.reduceNe, Int.reduceToNat, pks.1, sets.1, tick_on, e0, e2, e3, e4, e5, h3_2, k1]
    refine orderP_of (by kernel_rfl) ?_
    simp -implicitDefEqProofs only [sims.1, fx.1, keeps.1, tick_on, calleeK, extractV, oneV, faddrK, nonnil, b_shr, b_shl, fieldK, Nat.reduceAdd, Nat.reduceMul, Nat.reduceSub, Nat.reduceEqDiff, Nat.reduceLT, Nat.reduceLeDiff, Nat.reduceBEq, Nat.reduceBNe, reduceIte, Int.reduceEq, Int.reduceLT, Int.reduceLE, Int.reduceNe, Int.reduceToNat, pks.1, sets.1, tick_on, e0, e2, e3, e4, e5, h3_2, k1]
    refine callD_take l (po l + 8) 6 (po l + 14) rfl rfl (by omega) (by omega) (fun sh => ?_) (fun sh => ?_)
    rotate_left
    · simp -implicitDefEqProofs only [sims.1, fx.1, keeps.1, tick_on, calleeK, extractV, oneV, faddrK, nonnil, b_shr, b_shl, fieldK, Nat.reduceAdd, Nat.reduceMul, Nat.reduceSub, Nat.reduceEqDiff, Nat.reduceLT, Nat.reduceLeDiff, Nat.reduceBEq, Nat.reduceBNe, reduceIte, Int.reduceEq, Int.reduceLT, Int.reduceLE, Int.reduceNe, Int.reduceToNat, pks.1, sets.1, tick_on, e0, e2, e3, e4, e5, h3_2, k1]
      exact boom4 _ _ _ _ _ e2 e3 (qp_short (shortN (by omega)) _)
    simp -implicitDefEqProofs only [sims.1, fx.1, keeps.1, tick_on, calleeK, extractV, oneV, faddrK, nonnil, b_shr, b_shl, fieldK, Nat.reduceAdd, Nat.reduceMul, Nat.reduceSub, Nat.reduceEqDiff, Nat.reduceLT, Nat.reduceLeDiff, Nat.reduceBEq, Nat.reduceBNe, reduceIte, Int.reduceEq, Int.reduceLT, Int.reduceLE, Int.reduceNe, Int.reduceToNat, pks.1, sets.1, tick_on, e0, e2, e3, e4, e5, h3_2, k1]
    rcases Nat.lt_or_ge l.length (po l + 14 + 4) with sh | sh
    · refine w_panicky 2 rfl ?_
      change runE _ _ (panHere _ _ _ _ (_ :: _)) _ _ (_ :: _ :: []) _ _
      simp -implicitDefEqProofs only [sims.1, fx.1, keeps.1, tick_on, calleeK, extractV, oneV, faddrK, nonnil, b_shr, b_shl, fieldK, Nat.reduceAdd, Nat.reduceMul, Nat.reduceSub, Nat.reduceEqDiff, Nat.reduceLT, Nat.reduceLeDiff, Nat.reduceBEq, Nat.reduceBNe, reduceIte, Int.reduceEq, Int.reduceLT, Int.reduceLE, Int.reduceNe, Int.reduceToNat, pks.1, sets.1, tick_on, e0, e2, e3, e4, e5, h3_2, k1]
      refine p_here rfl ?_ ?_
      · repeat (first | (refine u_skip rfl ?_) | (refine u_go rfl rfl rfl rfl rfl rfl rfl (by kernel_rfl) ?_))
        exact u_nil
      · simp -implicitDefEqProofs only [sims.1, fx.1, keeps.1, tick_on, calleeK, extractV, oneV, faddrK, nonnil, b_shr, b_shl, fieldK, Nat.reduceAdd, Nat.reduceMul, Nat.reduceSub, Nat.reduceEqDiff, Nat.reduceLT, Nat.reduceLeDiff, Nat.reduceBEq, Nat.reduceBNe, reduceIte, Int.reduceEq, Int.reduceLT, Int.reduceLE, Int.reduceNe, Int.reduceToNat, pks.1, sets.1, tick_on, e0, e2, e3, e4, e5, h3_2, k1]
        refine callP_num l (po l + 14) 4 rfl rfl (by omega) (by omega) ?_
        simp -implicitDefEqProofs only [sims.1, fx.1, keeps.1, tick_on, calleeK, extractV, oneV, faddrK, nonnil, b_shr, b_shl, fieldK, Nat.reduceAdd, Nat.reduceMul, Nat.reduceSub, Nat.reduceEqDiff, Nat.reduceLT, Nat.reduceLeDiff, Nat.reduceBEq, Nat.reduceBNe, reduceIte, Int.reduceEq, Int.reduceLT, Int.reduceLE, Int.reduceNe, Int.reduceToNat, pks.1, sets.1, tick_on, e0, e2, e3, e4, e5, h3_2, k1]
        exact boom4 _ _ _ _ _ e2 e3 (qp_short (shortN (by omega)) _)
    refine w_noisy ?_
    simp -implicitDefEqProofs only [sims.1, fx.1, keeps.1, tick_on, calleeK, extractV, oneV, faddrK, nonnil, b_shr, b_shl, fieldK, Nat.reduceAdd, Nat.reduceMul, Nat.reduceSub, Nat.reduceEqDiff, Nat.reduceLT, Nat.reduceLeDiff, Nat.reduceBEq, Nat.reduceBNe, reduceIte, Int.reduceEq, Int.reduceLT, Int.reduceLE, Int.reduceNe, Int.reduceToNat, pks.1, sets.1, tick_on, e0, e2, e3, e4, e5, h3_2, k1]
    refine callE_num l (po l + 14) 4 (po l + 18) hb rfl rfl (by omega) (by omega) (by omega) ⟨by kernel_rfl, ?_⟩
    simp -implicitDefEqProofs only [sims.1, fx.1, keeps.1, tick_on, calleeK, extractV, oneV, faddrK, nonnil, b_shr, b_shl, fieldK, Nat.reduceAdd, Nat.reduceMul, Nat.reduceSub, Nat.reduceEqDiff, Nat.reduceLT, Nat.reduceLeDiff, Nat.reduceBEq, Nat.reduceBNe, reduceIte, Int.reduceEq, Int.reduceLT, Int.reduceLE, Int.reduceNe, Int.reduceToNat, pks.1, sets.1, tick_on, e0, e2, e3, e4, e5, h3_2, k1]
    refine orderP_of (by kernel_rfl) ?_
    simp -implicitDefEqProofs only [sims.1, fx.1, keeps.1, tick_on, calleeK, extractV, oneV, faddrK, nonnil, b_shr, b_shl, fieldK, Nat.reduceAdd, Nat.reduceMul, Nat.reduceSub, Nat.reduceEqDiff, Nat.reduceLT, Nat.reduceLeDiff, Nat.reduceBEq, Nat.reduceBNe, reduceIte, Int.reduceEq, Int.reduceLT, Int.reduceLE, Int.reduceNe, Int.reduceToNat, pks.1, sets.1, tick_on, e0, e2, e3, e4, e5, h3_2, k1]
    refine callD_take l (po l + 18) 6 (po l + 24) rfl rfl (by omega) (by omega) (fun sh => ?_) (fun sh => ?_)
    rotate_left
    · simp -implicitDefEqProofs only [sims.1, fx.1, keeps.1, tick_on, calleeK, extractV, oneV, faddrK, nonnil, b_shr, b_shl, fieldK, Nat.reduceAdd, Nat.reduceMul, Nat.reduceSub, Nat.reduceEqDiff, Nat.reduceLT, Nat.reduceLeDiff, Nat.reduceBEq, Nat.reduceBNe, reduceIte, Int.reduceEq, Int.reduceLT, Int.reduceLE, Int.reduceNe, Int.reduceToNat, pks.1, sets.1, tick_on, e0, e2, e3, e4, e5, h3_2, k1]
      exact boom4 _ _ _ _ _ e2 e3 (qp_short (shortN (by omega)) _)
    simp -implicitDefEqProofs only [sims.1, fx.1, keeps.1, tick_on, calleeK, extractV, oneV, faddrK, nonnil, b_shr, b_shl, fieldK, Nat.reduceAdd, Nat.reduceMul, Nat.reduceSub, Nat.reduceEqDiff, Nat.reduceLT, Nat.reduceLeDiff, Nat.reduceBEq, Nat.reduceBNe, reduceIte, Int.reduceEq, Int.reduceLT, Int.reduceLE, Int.reduceNe, Int.reduceToNat, pks.1, sets.1, tick_on, e0, e2, e3, e4, e5, h3_2, k1]
    rcases Nat.lt_or_ge l.length (po l + 24 + 4) with sh | sh
    · refine w_panicky 2 rfl ?_
      change runE _ _ (panHere _ _ _ _ (_ :: _)) _ _ (_ :: _ :: []) _ _
      simp -implicitDefEqProofs only [sims.1, fx.1, keeps.1, tick_on, calleeK, extractV, oneV, faddrK, nonnil, b_shr, b_shl, fieldK, Nat.reduceAdd, Nat.reduceMul, Nat.reduceSub, Nat.reduceEqDiff, Nat.reduceLT, Nat.reduceLeDiff, Nat.reduceBEq, Nat.reduceBNe, reduceIte, Int.reduceEq, Int.reduceLT, Int.reduceLE, Int.reduceNe, Int.reduceToNat, pks.1, sets.1, tick_on, e0, e2, e3, e4, e5, h3_2, k1]
      refine p_here rfl ?_ ?_
      · repeat (first | (refine u_skip rfl ?_) | (refine u_go rfl rfl rfl rfl rfl rfl rfl (by kernel_rfl) ?_))
        exact u_nil
      · simp -implicitDefEqProofs only [sims.1, fx.1, keeps.1, tick_on, calleeK, extractV, oneV, faddrK, nonnil, b_shr, b_shl, fieldK, Nat.reduceAdd, Nat.reduceMul, Nat.reduceSub, Nat.reduceEqDiff, Nat.reduceLT, Nat.reduceLeDiff, Nat.reduceBEq, Nat.reduceBNe, reduceIte, Int.reduceEq, Int.reduceLT, Int.reduceLE, Int.reduceNe, Int.reduceToNat, pks.1, sets.1, tick_on, e0, e2, e3, e4, e5, h3_2, k1]
        refine callP_num l (po l + 24) 4 rfl rfl (by omega) (by omega) ?_
        simp -implicitDefEqProofs only [sims.1, fx.1, keeps.1, tick_on, calleeK, extractV, oneV, faddrK, nonnil, b_shr, b_shl, fieldK, Nat.reduceAdd, Nat.reduceMul, Nat.reduceSub, Nat.reduceEqDiff, Nat.reduceLT, Nat.reduceLeDiff, Nat.reduceBEq, Nat.reduceBNe, reduceIte, Int.reduceEq, Int.reduceLT, Int.reduceLE, Int.reduceNe, Int.reduceToNat, pks.1, sets.1, tick_on, e0, e2, e3, e4, e5, h3_2, k1]
        exact boom4 _ _ _ _ _ e2 e3 (qp_short (shortN (by omega)) _)
    refine w_noisy ?_
    simp -implicitDefEqProofs only [sims.1, fx.1, keeps.1, tick_on, calleeK, extractV, oneV, faddrK, nonnil, b_shr, b_shl, fieldK, Nat.reduceAdd, Nat.reduceMul, Nat.reduceSub, Nat.reduceEqDiff, Nat.reduceLT, Nat.reduceLeDiff, Nat.reduceBEq, Nat.reduceBNe, reduceIte, Int.reduceEq, Int.reduceLT, Int.reduceLE, Int.reduceNe, Int.reduceToNat, pks.1, sets.1, tick_on, e0, e2, e3, e4, e5, h3_2, k1]
    refine callE_num l (po l + 24) 4 (po l + 28) hb rfl rfl (by omega) (by omega) (by omega) ⟨by kernel_rfl, ?_⟩
    simp -implicitDefEqProofs only [sims.1, fx.1, keeps.1, tick_on, calleeK, extractV, oneV, faddrK, nonnil, b_shr, b_shl, fieldK, Nat.reduceAdd, Nat.reduceMul, Nat.reduceSub, Nat.reduceEqDiff, Nat.reduceLT, Nat.reduceLeDiff, Nat.reduceBEq, Nat.reduceBNe, reduceIte, Int.reduceEq, Int.reduceLT, Int.reduceLE, Int.reduceNe, Int.reduceToNat, pks.1, sets.1, tick_on, e0, e2, e3, e4, e5, h3_2, k1]
    refine orderP_of (by kernel_rfl) ?_
    simp -implicitDefEqProofs only [sims.1, fx.1, keeps.1, tick_on, calleeK, extractV, oneV, faddrK, nonnil, b_shr, b_shl, fieldK, Nat.reduceAdd, Nat.reduceMul, Nat.reduceSub, Nat.reduceEqDiff, Nat.reduceLT, Nat.reduceLeDiff, Nat.reduceBEq, Nat.reduceBNe, reduceIte, Int.reduceEq, Int.reduceLT, Int.reduceLE, Int.reduceNe, Int.reduceToNat, pks.1, sets.1, tick_on, e0, e2, e3, e4, e5, h3_2, k1]
    rw [pc_ext _ (fin_arp k1)]
    have hok : rdOK l = true := ok_of hl14 htg (by omega)
    refine callD_pk (ansB35 (rdH l) (rdB l) (rdH_u64 hb) (rdB_lt hb) (by have := rdB_len l; omega)) en35 (by simp only [nf, nfs, nf_by, Bool.and_self]) rfl rfl ?_
    cases b0 : decide (bldF (rdH l) (rdB l) = 0)
    · simp -implicitDefEqProofs only [sims.1, fx.1, keeps.1, tick_on, calleeK, extractV, oneV, faddrK, nonnil, b_shr, b_shl, fieldK, Nat.reduceAdd, Nat.reduceMul, Nat.reduceSub, Nat.reduceEqDiff, Nat.reduceLT, Nat.reduceLeDiff, Nat.reduceBEq, Nat.reduceBNe, reduceIte, Int.reduceEq, Int.reduceLT, Int.reduceLE, Int.reduceNe, Int.reduceToNat, pks.1, sets.1, tick_on, e0, e2, e3, e4, e5, h3_2, k1, b0]
      exact retD zH .nils 30 e2 e3 rfl rfl (qp_err (by simp only [prsK, b0, Bool.false_and, Bool.and_false]) _)
    · simp -implicitDefEqProofs only [sims.1, fx.1, keeps.1, tick_on, calleeK, extractV, oneV, faddrK, nonnil, b_shr, b_shl, fieldK, Nat.reduceAdd, Nat.reduceMul, Nat.reduceSub, Nat.reduceEqDiff, Nat.reduceLT, Nat.reduceLeDiff, Nat.reduceBEq, Nat.reduceBNe, reduceIte, Int.reduceEq, Int.reduceLT, Int.reduceLE, Int.reduceNe, Int.reduceToNat, pks.1, sets.1, tick_on, e0, e2, e3, e4, e5, h3_2, k1, b0]
      refine callD_ans (ans40 (bldO (rdH l) (rdB l)) l (bldO_lt _ _ (rdB_lt hb)) hb) en40 (by simp only [nfs, nf_by, Bool.and_self]) rfl ?_
      have hO : bldO (rdH l) (rdB l) = frmR (rdH l) (rdB l) := by simp only [bldO, b0, cond_true]
      rw [hO]
      cases b1 : decide (frmR (rdH l) (rdB l) = l)
      · simp -implicitDefEqProofs only [sims.1, fx.1, keeps.1, tick_on, calleeK, extractV, oneV, faddrK, nonnil, b_shr, b_shl, fieldK, Nat.reduceAdd, Nat.reduceMul, Nat.reduceSub, Nat.reduceEqDiff, Nat.reduceLT, Nat.reduceLeDiff, Nat.reduceBEq, Nat.reduceBNe, reduceIte, Int.reduceEq, Int.reduceLT, Int.reduceLE, Int.reduceNe, Int.reduceToNat, pks.1, sets.1, tick_on, e0, e2, e3, e4, e5, h3_2, k1, b0, b1]
        exact retD zH .nils 30 e2 e3 rfl rfl (qp_err (by simp only [prsK, b1, Bool.and_false]) _)
      · simp -implicitDefEqProofs only [sims.1, fx.1, keeps.1, tick_on, calleeK, extractV, oneV, faddrK, nonnil, b_shr, b_shl, fieldK, Nat.reduceAdd, Nat.reduceMul, Nat.reduceSub, Nat.reduceEqDiff, Nat.reduceLT, Nat.reduceLeDiff, Nat.reduceBEq, Nat.reduceBNe, reduceIte, Int.reduceEq, Int.reduceLT, Int.reduceLE, Int.reduceNe, Int.reduceToNat, pks.1, sets.1, tick_on, e0, e2, e3, e4, e5, h3_2, k1, b0, b1]
        exact retD (rdH l) (.sl 1 3 0 (rdB l).length) 0 e2 e3 rfl rfl (qp_ok (by simp only [prsK, hok, b0, b1, Bool.and_self]) (fun _ _ => rfl) rfl rfl)
theorem ansB18 (l : List Nat) (hb : ∀ b ∈ l, b < 256) (hl : l.length < 140737488351233) : AnsB Try.prog 18 [byV l] (prsA l) := ansB_of3 (snd18P l hb hl)
theorem ans18 (l : List Nat) (hb : ∀ b ∈ l, b < 256) (hl : l.length < 140737488351233) : Ans Try.prog 18 [byV l] (prsA l) := (ansB18 l hb hl).ans (by simp only [nfs, nf_by, Bool.and_self]) (by simp only [prsA, nf, nfs, nf_pkA, Bool.and_self])
end Go.Proofs.Ytpmbhjmlghoogaa
