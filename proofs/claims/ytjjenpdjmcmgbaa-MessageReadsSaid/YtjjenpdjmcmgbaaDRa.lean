/- What Decode and Encode answer, told for callers. No condition. No message's bytes begin another one's. No condition. Arguments of law07: messages. No condition. No message's bytes begin another one's: its arguments. No condition. A message is the same as itself. No condition. The reference's reader: numbers. No condition. -/
import Derived.Test.YtjjenpdjmcmgbaaDXq
import Derived.Test.YtjjenpdjmcmgbaaDZx
namespace Go.Proofs.Ytjjenpdjmcmgbaa
open Go Ab
set_option linter.unusedSimpArgs false
set_option linter.unusedVariables false
set_option maxRecDepth 20000
section
variable {P : Program} {f : FuncId} {vs vs' : List V} {m m' : Mem} {v u e : V} {l : List V}
/-- An answer's nil slices, told as empty ones. -/
theorem ans_wk1 (h : Snd P f vs [] fun r => ∃ m1 C, r = .ret (.tup [.agg C, e]) m1 ∧ Wks C l) : Ans P f vs (.tup [.agg l, e]) := by
  intro ρ I w xs hr hl hrt
  refine (h ρ I w xs hr hl hrt).mono ?_
  rintro ex w' ⟨r, ⟨m1, C, rfl, hw⟩, x, ρ', I', rfl, k1, k2, k3⟩
  refine ⟨.ret (.tup [.agg l, e]) m1, ⟨m1, rfl⟩, x, ρ', I', rfl, k1, k2, ?_⟩
  have k3 : RV m1.length ρ' I' w' (.tup [.agg C, e]) x := k3
  show RV m1.length ρ' I' w' (.tup [.agg l, e]) x
  simp only [RV, Rt] at k3 ⊢
  obtain ⟨c, h1, h2, ⟨y, h3, h4⟩, h5⟩ := k3
  refine ⟨c, h1, h2, ⟨y, h3, ?_⟩, h5⟩
  have := hw.agg (x := y) (by simp only [RV]; exact h4)
  simpa only [RV] using this
end
theorem snd12 {b : List Nat} (hb : Byt b) : Snd Try.prog 12 [byV b] [] (RD b) := by
  cases hs : short b
  · exact snd12b hb hs
  · exact snd12a hb hs
theorem ans12 {b : List Nat} (hb : Byt b) : Ans Try.prog 12 [byV b] (.tup [.agg (msC (decX b)), .int .i64 (decE b)]) := ans_wk1 (snd12 hb)
end Go.Proofs.Ytjjenpdjmcmgbaa
namespace Go.Proofs.Ytjjenpdjmcmgbaa
open Go Ab
set_option linter.unusedSimpArgs false
set_option linter.unusedVariables false
set_option maxRecDepth 20000
theorem put_lt {x : Ms} : ∀ b ∈ enc x.id 4, b < 256 := putB_lt _ _ _
end Go.Proofs.Ytjjenpdjmcmgbaa
namespace Go.Proofs.Ytjjenpdjmcmgbaa
open Go Ab
set_option linter.unusedSimpArgs false
set_option linter.unusedVariables false
set_option maxRecDepth 20000
theorem nat_u8 {x : Int} (h : (Lit.int .u8 x).wf = true) : ∃ n : Nat, x = (n : Int) ∧ n < 256 := by
  simp [Lit.wf, IntKind.min, IntKind.max, IntKind.bits, IntKind.signed] at h
  exact ⟨x.toNat, by omega, by omega⟩
theorem co5 : Try.prog.cellsOf 5 = 1 := by kernel_rfl
theorem bo5 : Nat.blt 0 (Try.prog.bytesOf 5) = true := by kernel_rfl
theorem small_of {n b : Nat} (hb : Nat.blt 0 b = true) (h : n * b ≤ reachBytes) : n < lim := by
  have h4 : 0 < b := by simpa using hb
  have h5 : n ≤ n * b := Nat.le_mul_of_pos_right _ h4
  have h6 : reachBytes < lim := by decide
  omega
theorem op34 {d : Nat} {l : List V} (h : rdT Try.prog (d + 2) 34 l) : ∃ c : List Nat, (c.length < lim ∧ ∀ q ∈ c, q < 256) ∧ l = [byV c] := by
  obtain ⟨es, rfl, h1, h2⟩ := rd_isl Try.underlying34 h
  obtain ⟨c, h3, rfl⟩ := rd_map byC (fun q => q < 256) (fun l h => by
    obtain ⟨x, rfl, hx⟩ := rd_int Try.underlying5 h
    obtain ⟨x, rfl, hx2⟩ := nat_u8 hx
    exact ⟨x, hx2, rfl⟩) h2
  rw [List.length_map] at h1
  exact ⟨c, ⟨small_of bo5 h1, h3⟩, by rw [co5]; rfl⟩
end Go.Proofs.Ytjjenpdjmcmgbaa
namespace Go.Proofs.Ytjjenpdjmcmgbaa
open Go Ab
set_option linter.unusedSimpArgs false
set_option linter.unusedVariables false
set_option maxRecDepth 20000
def BL (l : List Nat) : Prop := ∀ b ∈ l, b < 256
theorem BL.app {a b : List Nat} (h : BL a) (g : BL b) : BL (a ++ b) := fun x hx => (List.mem_append.1 hx).elim (h x) (g x)
theorem BL.enc (x n : Nat) : BL (enc x n) := putB_lt _ _ _
end Go.Proofs.Ytjjenpdjmcmgbaa
namespace Go.Proofs.Ytjjenpdjmcmgbaa
open Go Ab
set_option linter.unusedSimpArgs false
set_option linter.unusedVariables false
set_option maxRecDepth 20000
theorem eq123s (a : Act) (h : wfA a) : eqV Try.prog 123 (.agg (acC a)) (.agg (acC a)) = some true := by
  have sh : shp Try.prog 9 123 = some [.ti .i8, .ti .i8, .ti .u64] := by kernel_rfl
  have key : (Try.prog.keyTypeAt 8 123 && (!Try.prog.eqGuardType Try.prog.depth 123 && isAggT Try.prog 123)) = true := by kernel_rfl
  have h1 : (Lit.int .i8 a.d).wf = true := by have := h.1; simp [Lit.wf, IntKind.min, IntKind.max, IntKind.bits, IntKind.signed]; omega
  have h2 : (Lit.int .i8 a.f).wf = true := by have := h.2.1; simp [Lit.wf, IntKind.min, IntKind.max, IntKind.bits, IntKind.signed]; omega
  have h3 : (Lit.int .u64 (a.n : Int)).wf = true := by have := h.2.2; simp [Lit.wf, IntKind.min, IntKind.max, IntKind.bits, IntKind.signed]; omega
  have fit : fitV [.ti .i8, .ti .i8, .ti .u64] (acC a) [.int .i8 a.d, .int .i8 a.f, .int .u64 (a.n : Int)] :=
    ⟨⟨_, rfl, rfl, h1, rfl⟩, ⟨_, rfl, rfl, h2, rfl⟩, ⟨_, rfl, rfl, h3, rfl⟩, rfl, rfl⟩
  simp only [eqV, key, cond_true, litsV_fit sh fit]
  congr 1
  rw [litsEq_iff]
theorem eqN_s (n : Nat) (f : Nat → Int) : eqN n f f = true := by simp [eqN]
set_option maxHeartbeats 1000000 in
theorem ans28 (l : List Nat) (hl : l.length < lim) : Ans Try.prog 28 [poV l, poV l] (.bool true) := by
  refine Snd_of_W fol rfl rfl (by kernel_rfl) (by kernel_rfl) ?_
  have ln : ∀ M, lenV Try.prog M 33 (poV l) = some (.int .i64 (l.length : Int)) := fun M => by unfold poV; rw [lni33, List.length_map]
  have hlim : l.length < 281474976710656 := hl
  simp -implicitDefEqProofs only [sims.1, keeps.1, tick_on, Nat.reduceEqDiff, ln]
  refine W_loopM (fun j : Nat => [(12, V.int .i64 (l.length : Int)), (0, poV l), (1, poV l), (13, V.int .i64 (j : Int))]) (fun j M => j ≤ l.length) (fun j => l.length + 1 - j) 0 (by kernel_rfl) (by omega) ?_
  rintro j M h1
  rcases Nat.lt_or_ge j l.length with hj | hj
  · have d1 : decide (j < l.length) = true := by simpa using hj
    have w1 := add1N j (by omega)
    have ia : ∀ {kk : IntKind}, iaddrS 1 (poV l) (.int kk (j : Int)) = some (.ip (poC l[j])) := fun {kk} => iaddrS_isl (by simp [hj])
    have at0 : (poC l[j])[0]? = some (.int .u16 (l[j] : Int)) := rfl
    simp -implicitDefEqProofs only [sims.1, keeps.1, tick_on, Nat.reduceEqDiff, ltNat, d1]
    refine w_quiet ?_
    simp -implicitDefEqProofs only [sims.1, fx.1, keeps.1, tick_on, Nat.reduceEqDiff, ia, at0, w1]
    exact ⟨j + 1, by kernel_rfl, by omega, by omega⟩
  · have d1 : decide (j < l.length) = false := by simp; omega
    simp -implicitDefEqProofs only [sims.1, fx.1, keeps.1, tick_on, Nat.reduceEqDiff, ltNat, d1]
    exact ans_ret rfl
set_option maxHeartbeats 2000000 in
theorem ans62 (l : List (List Act)) (hl : wfL l) : Ans Try.prog 62 [cpsV l, cpsV l] (.bool true) := by
  refine Snd_of_W fol rfl rfl (by kernel_rfl) (by kernel_rfl) ?_
  have ln : ∀ M, lenV Try.prog M 29 (cpsV l) = some (.int .i64 (l.length : Int)) := fun M => by unfold cpsV; rw [lni29, List.length_map]
  have hlim : l.length < 281474976710656 := hl.1
  simp -implicitDefEqProofs only [sims.1, keeps.1, tick_on, Nat.reduceEqDiff, ln]
  refine W_loopM (fun i : Nat => [(13, V.int .i64 (l.length : Int)), (0, cpsV l), (1, cpsV l), (14, V.int .i64 (i : Int))]) (fun i M => i ≤ l.length) (fun i => l.length + 1 - i) 0 (by kernel_rfl) (by omega) ?_
  rintro i M h1
  rcases Nat.lt_or_ge i l.length with hi | hi
  · have d1 : decide (i < l.length) = true := by simpa using hi
    have w1 := add1N i (by omega)
    have hc := hl.2 _ (List.getElem_mem hi)
    have hcl : l[i].length < 281474976710656 := hc.1
    have lnc : ∀ M, lenV Try.prog M 99 (cpV l[i]) = some (.int .i64 (l[i].length : Int)) := fun M => by unfold cpV; rw [lni99, List.length_map]
    have ia : ∀ {kk : IntKind}, iaddrS 1 (cpsV l) (.int kk (i : Int)) = some (.ip [cpV l[i]]) := fun {kk} => iaddrS_isl (by simp [hi])
    simp -implicitDefEqProofs only [sims.1, keeps.1, tick_on, Nat.reduceEqDiff, ltNat, d1]
    refine w_quiet ?_
    simp -implicitDefEqProofs only [sims.1, fx.1, keeps.1, tick_on, Nat.reduceEqDiff, ia, lnc]
    refine W_loopM (fun j : Nat => [(32, V.int .i64 (l[i].length : Int)), (5, V.int .i64 (i : Int)), (33, V.int .i64 (j : Int)), (14, V.int .i64 (i : Int)), (13, V.int .i64 (l.length : Int)), (0, cpsV l), (1, cpsV l)]) (fun j M => j ≤ l[i].length) (fun j => l[i].length + 1 - j) 0 (by kernel_rfl) (by omega) ?_
    rintro j M g1
    rcases Nat.lt_or_ge j l[i].length with hj | hj
    · have d2 : decide (j < l[i].length) = true := by simpa using hj
      have w2 := add1N j (by omega)
      have ib : ∀ {kk : IntKind}, iaddrS 3 (cpV l[i]) (.int kk (j : Int)) = some (.ip (acC l[i][j])) := fun {kk} => iaddrS_isl (by simp [hj])
      have q := eq123s l[i][j] (hc.2 _ (List.getElem_mem hj))
      simp -implicitDefEqProofs only [sims.1, keeps.1, tick_on, Nat.reduceEqDiff, ltNat, d2]
      refine w_quiet ?_
      simp -implicitDefEqProofs only [sims.1, fx.1, keeps.1, tick_on, Nat.reduceEqDiff, ia, ib, acp, q, w2]
      exact ⟨j + 1, by kernel_rfl, by omega, by omega⟩
    · have d2 : decide (j < l[i].length) = false := by simp; omega
      simp -implicitDefEqProofs only [sims.1, fx.1, keeps.1, tick_on, Nat.reduceEqDiff, ltNat, d2, w1]
      exact ⟨i + 1, by kernel_rfl, by omega, by omega⟩
  · have d1 : decide (i < l.length) = false := by simp; omega
    simp -implicitDefEqProofs only [sims.1, fx.1, keeps.1, tick_on, Nat.reduceEqDiff, ltNat, d1]
    exact ans_ret rfl
theorem ruCl (r : Ru) : (ruC r).length = 25 := rfl
theorem ru0 (r : Ru) : (ruC r)[0]? = some (.int .i64 r.rank) := rfl
theorem ru1 (r : Ru) : partK true 22 (ruC r) 1 = some (.agg (mC r.w)) := rfl
theorem ru23 (r : Ru) : (ruC r)[23]? = some (cpsV r.l) := rfl
theorem ru24 (r : Ru) : (ruC r)[24]? = some (.int .u64 (r.ck : Int)) := rfl
set_option maxHeartbeats 2000000 in
theorem ans27 (r : Ru) (hr : wfR r) : Ans Try.prog 27 [.agg (ruC r), .agg (ruC r)] (.bool true) := by
  refine Snd_of_W fol rfl rfl (by kernel_rfl) (by kernel_rfl) ?_
  have q : eqV Try.prog 28 (.agg (mC r.w)) (.agg (mC r.w)) = some true := (eq28 hr.2.1 hr.2.1).trans (congrArg some (eqN_s 22 _))
  have nfl : nfs [cpsV r.l, cpsV r.l] = true := nfs_cons (nf_cps r.l) (nfs_cons (nf_cps r.l) rfl)
  simp -implicitDefEqProofs only [sims.1, fx.1, keeps.1, tick_on, calleeK, faddrK, Nat.reduceEqDiff, ru0, ru1, ru23, ru24, q]
  refine callD_ans (ans62 r.l hr.2.2.1) en62 nfl rfl ?_
  simp -implicitDefEqProofs only [sims.1, fx.1, keeps.1, tick_on, Nat.reduceEqDiff]
  exact ans_ret rfl
theorem nf_ru (r : Ru) : nf (.agg (ruC r)) = true := by
  simp only [nf, ruC, nfs, nfs_app, mC, nfs_cl, nf_cps, Bool.and_self]
set_option maxHeartbeats 2000000 in
theorem ans29 (l : List He) (hl : l.length < lim ∧ ∀ h ∈ l, wfH h) : Ans Try.prog 29 [hesV l, hesV l] (.bool true) := by
  refine Snd_of_W fol rfl rfl (by kernel_rfl) (by kernel_rfl) ?_
  have ln : ∀ M, lenV Try.prog M 35 (hesV l) = some (.int .i64 (l.length : Int)) := fun M => by unfold hesV; rw [lni35, List.length_map]
  have hlim : l.length < 281474976710656 := hl.1
  simp -implicitDefEqProofs only [sims.1, keeps.1, tick_on, Nat.reduceEqDiff, ln]
  refine W_loopM (fun j : Nat => [(12, V.int .i64 (l.length : Int)), (0, hesV l), (1, hesV l), (13, V.int .i64 (j : Int))]) (fun j M => j ≤ l.length) (fun j => l.length + 1 - j) 0 (by kernel_rfl) (by omega) ?_
  rintro j M h1
  rcases Nat.lt_or_ge j l.length with hj | hj
  · have d1 : decide (j < l.length) = true := by simpa using hj
    have w1 := add1N j (by omega)
    have hh := hl.2 _ (List.getElem_mem hj)
    have ia : ∀ {kk : IntKind}, iaddrS 27 (hesV l) (.int kk (j : Int)) = some (.ip (heC l[j])) := fun {kk} => iaddrS_isl (by simp [hj])
    generalize l[j] = h at hh ia
    have hel : (heC h).length = 27 := rfl
    have p0 : partK true 25 (heC h) 0 = some (.agg (ruC h.r)) := rfl
    have p0' : partK true 25 (List.drop 0 (heC h)) 0 = some (.agg (ruC h.r)) := rfl
    have p1 : partK true 2 (List.drop 25 (heC h)) 0 = some (.agg [.int .u64 (h.p : Int), .int .u64 (h.b : Int)]) := rfl
    have q : eqV Try.prog 57 (.agg [.int .u64 (h.p : Int), .int .u64 (h.b : Int)]) (.agg [.int .u64 (h.p : Int), .int .u64 (h.b : Int)]) = some true := by
      have e : [V.int .u64 (h.p : Int), .int .u64 (h.b : Int)] = cl .u64 2 fun i => if i = 0 then (h.p : Int) else (h.b : Int) := rfl
      rw [e, ea57 _ _ ?_ ?_, eqN_s]
      all_goals
        have h1 := hh.2.1
        have h2 := hh.2.2
        intro i hi
        match i, hi with
        | 0, _ => simp [IntKind.min, IntKind.max, IntKind.bits, IntKind.signed, Lit.wf]; omega
        | 1, _ => simp [IntKind.min, IntKind.max, IntKind.bits, IntKind.signed, Lit.wf]; omega
    simp -implicitDefEqProofs only [sims.1, keeps.1, tick_on, Nat.reduceEqDiff, ltNat, d1]
    refine w_quiet ?_
    simp -implicitDefEqProofs only [sims.1, fx.1, keeps.1, tick_on, calleeK, faddrK, Nat.reduceEqDiff, Nat.reduceLeDiff, ia, hel, p0, List.drop_zero]
    refine callQ_ans (ans27 h.r hh.1) en27 (nfs_cons (nf_ru h.r) (nfs_cons (nf_ru h.r) rfl)) rfl ?_
    simp -implicitDefEqProofs only [sims.1, fx.1, keeps.1, tick_on, faddrK, Nat.reduceEqDiff, Nat.reduceLeDiff, ia, hel, p1, q, w1]
    exact ⟨j + 1, by kernel_rfl, by omega, by omega⟩
  · have d1 : decide (j < l.length) = false := by simp; omega
    simp -implicitDefEqProofs only [sims.1, fx.1, keeps.1, tick_on, Nat.reduceEqDiff, ltNat, d1]
    exact ans_ret rfl
theorem runOps_L {l0 l : List Oper} {env : Env} {m : Mem} {K : Env → Mem → Prop} {Kp : V → Mem → Prop} (hl : l0 = l) (h : runOps Try.prog l.toArray l env m K Kp) : runOps Try.prog l0.toArray l0 env m K Kp := hl ▸ h
theorem mg0 (x : Ms) : (msC x)[0]? = some (.int .i8 x.ty) := rfl
theorem mg1 (x : Ms) : (msC x)[1]? = some (.int .u32 (x.id : Int)) := rfl
theorem mg2 (x : Ms) : (msC x)[2]? = some (.int .i8 x.dd) := rfl
theorem mg3 (x : Ms) : partK true 25 (msC x) 3 = some (.agg (ruC x.r)) := rfl
theorem mg28 (x : Ms) : (msC x)[28]? = some (.int .u16 (x.port : Int)) := rfl
theorem mg29 (x : Ms) : (msC x)[29]? = some (.bool x.up) := rfl
theorem mg30 (x : Ms) : (msC x)[30]? = some (.int .u16 (x.sw : Int)) := rfl
theorem mg31 (x : Ms) : (msC x)[31]? = some (poV x.ports) := rfl
theorem mg32 (x : Ms) : (msC x)[32]? = some (poV x.edge) := rfl
theorem mg33 (x : Ms) : (msC x)[33]? = some (byV x.frame) := rfl
theorem mg34 (x : Ms) : (msC x)[34]? = some (hesV x.helds) := rfl
theorem mg35 (x : Ms) : (msC x)[35]? = some (.int .u16 (x.code : Int)) := rfl
set_option maxHeartbeats 4000000 in
theorem ans14 (x : Ms) (hx : wfM x) : Ans Try.prog 14 [.agg (msC x), .agg (msC x)] (.bool true) := by
  refine Snd_of_W fol rfl rfl (by kernel_rfl) (by kernel_rfl) ?_
  have e9 : ∀ a : ByteArray, (a.toList == a.toList) = true := fun a => by simp
  have beq : binV Try.prog .eql 4 (.bool x.up) (.bool x.up) = some (.bool true) := by cases x.up <;> rfl
  simp -implicitDefEqProofs only [sims.1, keeps.1, tick_on]
  refine runOps_L (by simp only [List.append_eq, List.cons_append, List.nil_append]; rfl) ?_
  simp -implicitDefEqProofs only [sims.1, fx.1, keeps.1, tick_on, calleeK, faddrK, Nat.reduceEqDiff, mg0, mg1, mg2, mg3]
  refine callD_ans (ans27 x.r hx.r) en27 (nfs_cons (nf_ru x.r) (nfs_cons (nf_ru x.r) rfl)) rfl ?_
  simp -implicitDefEqProofs only [sims.1, fx.1, keeps.1, tick_on, calleeK, faddrK, Nat.reduceEqDiff, mg28, mg29, mg30, mg31]
  refine callD_ans (ans28 x.ports hx.ports.1) en28 (nfs_cons (nf_po _) (nfs_cons (nf_po _) rfl)) rfl ?_
  simp -implicitDefEqProofs only [sims.1, fx.1, keeps.1, tick_on, calleeK, faddrK, Nat.reduceEqDiff, mg32]
  refine callD_ans (ans28 x.edge hx.edge.1) en28 (nfs_cons (nf_po _) (nfs_cons (nf_po _) rfl)) rfl ?_
  simp -implicitDefEqProofs only [sims.1, fx.1, keeps.1, tick_on, calleeK, faddrK, Nat.reduceEqDiff, mg33, strByM, strEq, mg34]
  refine callD_ans (ans29 x.helds hx.helds) en29 (nfs_cons (nf_hes _) (nfs_cons (nf_hes _) rfl)) rfl ?_
  simp -implicitDefEqProofs only [sims.1, fx.1, keeps.1, tick_on, faddrK, Nat.reduceEqDiff, mg35]
  exact ans_ret rfl
end Go.Proofs.Ytjjenpdjmcmgbaa
namespace Go.Proofs.Ytjjenpdjmcmgbaa
open Go Ab
set_option linter.unusedSimpArgs false
set_option linter.unusedVariables false
set_option maxRecDepth 20000
theorem take_drop_snoc {b : List Nat} {a j : Nat} (h : a + j < b.length) : beV ((b.drop a).take (j + 1)) = beV ((b.drop a).take j) * 256 + b[a + j] := by
  have hl : j < (b.drop a).length := by rw [List.length_drop]; omega
  rw [beV_take hl]
  congr 1
  rw [List.getElem_drop]
set_option maxHeartbeats 1000000 in
theorem ans23 {b : List Nat} (hb : Byt b) {a n : Nat} (hn : n ≤ 8) (h : a + n ≤ b.length) : Ans Try.prog 23 [byV b, .int .i64 (a : Int), .int .i64 (n : Int)] (.int .u64 (beV ((b.drop a).take n) : Int)) := by
  refine Snd_of_W fol rfl rfl (by kernel_rfl) (by kernel_rfl) ?_
  have hL := hb.2
  simp -implicitDefEqProofs only [sims.1, tick_on]
  refine W_loopM (fun j : Nat => [(2, V.int .i64 (n : Int)), (0, byV b), (1, V.int .i64 (a : Int)), (8, V.int .i64 (j : Int)), (7, V.int .u64 (beV ((b.drop a).take j) : Int))]) (fun j M => j ≤ n) (fun j => n + 1 - j) 0 (Eq.trans (b := [(2, V.int .i64 (n : Int)), (0, byV b), (1, V.int .i64 (a : Int)), (8, V.int .i64 0), (7, V.int .u64 0)]) (by kernel_rfl) (by simp [beV])) (by omega) ?_
  rintro j M h1
  have lt1 : decide ((j : Int) < (n : Int)) = decide (j < n) := by rw [Bool.eq_iff_iff]; simp
  rcases Nat.lt_or_ge j n with hj | hj
  · have d1 : decide (j < n) = true := by simpa using hj
    have haj : a + j < b.length := by omega
    have hbj : b[a + j] < 256 := hb.1 _ (List.getElem_mem haj)
    have hdb : ∀ x ∈ b.drop a, x < 256 := fun x hx => hb.1 x (List.mem_of_mem_drop hx)
    have hv : beV ((b.drop a).take j) < 72057594037927936 := Nat.lt_of_lt_of_le (beV_lt hdb j) (by
      have : 256 ^ j ≤ 256 ^ 7 := Nat.pow_le_pow_right (by omega) (by omega)
      exact this)
    have w0 : IntKind.i64.wrap ((a : Int) + (j : Int)) = ((a + j : Nat) : Int) := by rw [IntKind.wrap_i64]; omega
    have ia : ∀ {kk : IntKind}, iaddrS 1 (byV b) (.int kk ((a + j : Nat) : Int)) = some (.ip (byC b[a + j])) := fun {kk} => iaddrS_isl (by simp [haj])
    have b0 : (byC b[a + j])[0]? = some (.int .u8 (b[a + j] : Int)) := rfl
    have w1 := shl8 _ hv
    have w2 := or8 _ _ hv hbj
    have w3 := wrapU b[a + j] (by omega)
    have w4 := add1N j (by omega)
    simp -implicitDefEqProofs only [sims.1, fx.1, keeps.1, tick_on, b_shl, Nat.reduceEqDiff, Int.reduceLT, Int.reduceToNat, lt1, d1, w0, ia, b0, w1, w2, w3, w4]
    refine ⟨j + 1, ?_, by omega, by omega⟩
    rw [take_drop_snoc haj]
    kernel_rfl
  · obtain rfl : j = n := by omega
    have d1 : decide (j < j) = false := by simp
    simp -implicitDefEqProofs only [sims.1, fx.1, keeps.1, tick_on, Nat.reduceEqDiff, lt1, d1]
    exact ans_ret rfl
/-- The reader stands at block c: what is left, or none once something was short or wrong. -/
def RdS (m : Mem) (c : Nat) (b : List Nat) : Option (List Nat) → Prop
  | some rest => ∃ a, a ≤ b.length ∧ rest = b.drop a ∧ m[c]? = some (.var 77 [byV b, .int .i64 (a : Int), .bool false])
  | none => ∃ a, a ≤ b.length ∧ m[c]? = some (.var 77 [byV b, .int .i64 (a : Int), .bool true])
def nV (n : Nat) (S : Option (List Nat)) : Nat := match S.bind (rdN n) with
  | some p => p.1
  | none => 0
def nS (n : Nat) (S : Option (List Nat)) : Option (List Nat) := (S.bind (rdN n)).map (·.2)
def K1 (c : Nat) (m m' : Mem) : Prop := m.length ≤ m'.length ∧ ∀ k b, k ≠ c → m[k]? = some b → m'[k]? = some b
theorem K1.refl (c : Nat) (m : Mem) : K1 c m m := ⟨Nat.le_refl _, fun _ _ _ h => h⟩
theorem K1.trans {c : Nat} {m m' m'' : Mem} (h : K1 c m m') (g : K1 c m' m'') : K1 c m m'' := ⟨Nat.le_trans h.1 g.1, fun k b h1 h3 => g.2 k b h1 (h.2 k b h1 h3)⟩
theorem K1.app {c : Nat} (m ex : Mem) : K1 c m (m ++ ex) := ⟨by simp, fun k b _ h => by rw [List.getElem?_append_left (List.getElem?_eq_some_iff.1 h).1]; exact h⟩
theorem K1.set {c : Nat} {m m' : Mem} (h : K1 c m m') (b : B) : K1 c m (m'.set c b) := ⟨by simpa using h.1, fun k b' h1 h3 => by rw [List.getElem?_set_ne fun h => h1 h.symm]; exact h.2 k b' h1 h3⟩
theorem RdS.lt {m : Mem} {c : Nat} {b : List Nat} {S : Option (List Nat)} (h : RdS m c b S) : c < m.length := by
  cases S with
  | none => obtain ⟨_, _, h⟩ := h; exact (List.getElem?_eq_some_iff.1 h).1
  | some r => obtain ⟨_, _, _, h⟩ := h; exact (List.getElem?_eq_some_iff.1 h).1
theorem RdS.app {m : Mem} {c : Nat} {b : List Nat} {S : Option (List Nat)} (h : RdS m c b S) (ex : Mem) : RdS (m ++ ex) c b S := by
  have hl := h.lt
  cases S with
  | none => obtain ⟨a, h1, h⟩ := h; exact ⟨a, h1, by rw [List.getElem?_append_left hl]; exact h⟩
  | some r => obtain ⟨a, h1, h2, h⟩ := h; exact ⟨a, h1, h2, by rw [List.getElem?_append_left hl]; exact h⟩
theorem RdS.at {m m' : Mem} {c : Nat} {b : List Nat} {S : Option (List Nat)} (h : RdS m c b S) (e : m'[c]? = m[c]?) : RdS m' c b S := by
  cases S with
  | none => obtain ⟨a, h1, h⟩ := h; exact ⟨a, h1, e.trans h⟩
  | some r => obtain ⟨a, h1, h2, h⟩ := h; exact ⟨a, h1, h2, e.trans h⟩
/-- What comes of a reading call of the reference. -/
def QN (c : Nat) (m : Mem) (b : List Nat) (n : Nat) (S : Option (List Nat)) (r : CR) : Prop := ∃ m', r = .ret (.int .u64 (nV n S : Int)) m' ∧ K1 c m m' ∧ RdS m' c b (nS n S) ∧ m'.length = m.length
set_option maxHeartbeats 1000000 in
theorem snd24 {m : Mem} {c : Nat} {b : List Nat} {S : Option (List Nat)} {n : Nat} (hb : Byt b) (hS : RdS m c b S) (h0 : 0 < n) (hn : n ≤ 8) : Snd Try.prog 24 [.ptr c 0, .int .i64 (n : Int)] m (QN c m b n S) := by
  refine Snd_of_W fol rfl rfl (by kernel_rfl) (by kernel_rfl) ?_
  have hL := hb.2
  have hnn : ∀ k o, nonnil (.ptr k o) = true := fun _ _ => rfl
  have ln : ∀ M, lenV Try.prog M 34 (byV b) = some (.int .i64 (b.length : Int)) := fun M => by unfold byV; rw [lni34, List.length_map]
  cases S with
  | none =>
    obtain ⟨a, h1, h2⟩ := hS
    have stb : storeK 1 m (.ptr c 2) (.bool true) = some (m.set c (.var 77 [byV b, .int .i64 (a : Int), .bool true])) := by
      rw [storeK_one rfl, h2]
      rfl
    simp -implicitDefEqProofs only [sims.1, tick_on]
    refine w_quiet ?_
    simp -implicitDefEqProofs only [sims.1, fx.1, keeps.1, tick_on, faddrK, nonnil, Nat.reduceEqDiff, h2, stb]
    exact ⟨m.set c (.var 77 [byV b, .int .i64 (a : Int), .bool true]), rfl, (K1.refl c m).set _, ⟨a, h1, List.getElem?_set_self (List.getElem?_eq_some_iff.1 h2).1⟩, by simp⟩
  | some rest =>
    obtain ⟨a, h1, h2, h3⟩ := hS
    have hrl : rest.length = b.length - a := by rw [h2, List.length_drop]
    have w0 : IntKind.i64.wrap ((b.length : Int) - (a : Int)) = ((b.length - a : Nat) : Int) := by rw [IntKind.wrap_i64]; omega
    have lt1 : decide (((b.length - a : Nat) : Int) < (n : Int)) = decide (rest.length < n) := by rw [Bool.eq_iff_iff, hrl]; simp only [decide_eq_true_eq]; omega
    have hc := (List.getElem?_eq_some_iff.1 h3).1
    have stb : storeK 1 m (.ptr c 2) (.bool true) = some (m.set c (.var 77 [byV b, .int .i64 (a : Int), .bool true])) := by
      rw [storeK_one rfl, h3]
      rfl
    cases e : decide (rest.length < n)
    · have hle : n ≤ rest.length := by have := of_decide_eq_false e; omega
      have er : rdN n rest = some (beV (rest.take n), rest.drop n) := if_pos hle
      have w1 : IntKind.i64.wrap ((a : Int) + (n : Int)) = ((a + n : Nat) : Int) := by rw [IntKind.wrap_i64]; omega
      simp -implicitDefEqProofs only [sims.1, tick_on]
      refine w_quiet ?_
      simp -implicitDefEqProofs only [sims.1, fx.1, keeps.1, tick_on, faddrK, nonnil, Nat.reduceEqDiff, h3, ln, w0, lt1, e]
      refine w_quiet ?_
      simp -implicitDefEqProofs only [sims.1, fx.1, keeps.1, tick_on, calleeK, faddrK, nonnil, Nat.reduceEqDiff, h3]
      refine callQ_ans (ans23 hb hn (by omega)) en23 (by simp only [nfs, nf, nf_by, Bool.and_self]) rfl ?_
      simp -implicitDefEqProofs only [sims.1, fx.1, keeps.1, tick_on, faddrK, nonnil, Nat.reduceAdd, Nat.reduceEqDiff, Nat.reduceLT, h3, w1]
      refine ⟨m.set c (.var 77 [byV b, .int .i64 ((a + n : Nat) : Int), .bool false]), ?_, (K1.refl c m).set _, ?_, by simp⟩
      · unfold nV
        rw [Option.bind_some, er, ← h2]
      · unfold nS
        rw [Option.bind_some, er]
        refine ⟨a + n, by omega, ?_, List.getElem?_set_self hc⟩
        show rest.drop n = _
        rw [h2, List.drop_drop]
    · have er : rdN n rest = none := if_neg (by have := of_decide_eq_true e; omega)
      simp -implicitDefEqProofs only [sims.1, tick_on]
      refine w_quiet ?_
      simp -implicitDefEqProofs only [sims.1, fx.1, keeps.1, tick_on, faddrK, nonnil, Nat.reduceEqDiff, h3, ln, w0, lt1, e, stb]
      refine ⟨m.set c (.var 77 [byV b, .int .i64 (a : Int), .bool true]), ?_, (K1.refl c m).set _, ?_, by simp⟩
      · unfold nV
        rw [Option.bind_some, er]
        rfl
      · unfold nS
        rw [Option.bind_some, er]
        exact ⟨a, h1, List.getElem?_set_self hc⟩
end Go.Proofs.Ytjjenpdjmcmgbaa
