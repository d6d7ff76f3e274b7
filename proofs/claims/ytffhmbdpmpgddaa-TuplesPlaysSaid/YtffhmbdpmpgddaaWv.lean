/- TuplesPlays: the walk. No condition. -/
import Derived.Test.YtffhmbdpmpgddaaWu
namespace Go.Proofs.Ytffhmbdpmpgddaa
open Go Ab
set_option linter.unusedSimpArgs false
set_option linter.unusedVariables false
set_option maxRecDepth 20000

theorem cutBlk {P : Program} {K0 : Nat} {R : List Nat} {c : Code} {E : Nat → List Nat} {L : List Nat} {env : Env} {m : Mem} {id : Nat} {K : Env → Mem → Prop} {Q : Ex → Env → Mem → Prop} (C : Env → Mem → Prop)
    (h : W P K0 R c E L env m (blockQ id (seqQ C Q))) (hK : ∀ e m, C e m → K e m) : W P K0 R c E L env m (blockQ id (seqQ K Q)) := by
  refine W_mono _ _ _ _ _ _ _ (fun ex e m hh => ?_) h
  cases ex with
  | nrm => exact hK e m hh
  | ret => exact hh
  | pan v => exact hh
  | exit i =>
    simp only [blockQ] at hh ⊢
    cases hb : Nat.beq i id with
    | true => rw [hb] at hh; exact hK e m hh
    | false => rw [hb] at hh; exact hh
def CV (l : List De) (j : Nat) (e : Env) (mm : Mem) : Prop := e 3 = .ptr 1 0 ∧ e 4 = .ptr 2 0 ∧ e 22 = .int .i64 (j : Int) ∧ e 20 = .isl 38 (l.map deC) ∧ e 21 = .int .i64 (l.length : Int) ∧ ∃ N T R, N ≤ j + 1 ∧ Pl mm N T R
theorem pe26 (n o : Nat) (env : Env) : binV Try.prog .eql 26 (.ptr n o) (evO env (.const (.pointer none))) = some (.bool false) := rfl
theorem snd8n {m : Mem} {p : Nat} {r : Ru} (hr : U64 22 r.w) (hc : chk r.w = false) : Snd Try.prog 8 [.ptr p 0, .agg (ruC r)] m fun q => q = .ret (.tup [.int .i64 0, .int .i64 20]) (m ++ [.var 32 (ruC r)]) := by
  refine Snd_of_W fol rfl rfl (by kernel_rfl) (by kernel_rfl) ?_
  have pM : partK true 22 (ruC r) 1 = some (mv r.w) := rfl
  have a18 : Ans Try.prog 18 [mv r.w] (.int .i64 20) := by
    have := ans18 r.w hr
    rwa [hc] at this
  have hB : (m ++ [B.var 32 (ruC r)])[m.length]? = some (B.var 32 (ruC r)) := by simp
  have e0 : decide ((20 : Int) = 0) = false := rfl
  simp -implicitDefEqProofs only [sims.1, fx.1, keeps.1, tick_on, calleeK, extractV, oneV, faddrK, nonnil, b_shr, b_shl, fieldK, Nat.reduceAdd, Nat.reduceMul, Nat.reduceSub, Nat.reduceEqDiff, Nat.reduceLT, Nat.reduceLeDiff, Nat.reduceBEq, Nat.reduceBNe, reduceIte, Int.reduceEq, Int.reduceLT, Int.reduceLE, Int.reduceNe, Int.reduceToNat, pe26, hB, pM]
  refine callD_ans a18 en18 (by simp only [nfs, nf, mv, nfs_cl, Bool.and_self]) rfl ?_
  simp -implicitDefEqProofs only [sims.1, fx.1, keeps.1, tick_on, calleeK, extractV, oneV, faddrK, nonnil, b_shr, b_shl, fieldK, Nat.reduceAdd, Nat.reduceMul, Nat.reduceSub, Nat.reduceEqDiff, Nat.reduceLT, Nat.reduceLeDiff, Nat.reduceBEq, Nat.reduceBNe, reduceIte, Int.reduceEq, Int.reduceLT, Int.reduceLE, Int.reduceNe, Int.reduceToNat, e0]

set_option maxHeartbeats 8000000 in
theorem ans4i (l : List De) (hl : ∀ x ∈ l, wfD x) (hlen : l.length < 9223372036854775807) : Ans Try.prog 4 [.isl 38 (l.map deC)] (.bool true) := by
  refine Snd_of_W fol rfl rfl (by kernel_rfl) (by kernel_rfl) ?_
  have b45 : buildV Try.prog 45 [] = some (.agg [.nils, .int .i64 0]) := by kernel_rfl
  have lA : ∀ m, lenV Try.prog m 41 (.isl 38 (l.map deC)) = some (.int .i64 (l.length : Int)) := fun m => by
    have : lenV Try.prog m 41 (.isl 38 (l.map deC)) = some (.int .i64 ((l.map deC).length : Int)) := rfl
    rw [this, List.length_map]
  simp -implicitDefEqProofs only [sims.1, fx.1, keeps.1, tick_on, calleeK, extractV, oneV, faddrK, nonnil, b_shr, b_shl, fieldK, Nat.reduceAdd, Nat.reduceMul, Nat.reduceSub, Nat.reduceEqDiff, Nat.reduceLT, Nat.reduceLeDiff, Nat.reduceBEq, Nat.reduceBNe, reduceIte, Int.reduceEq, Int.reduceLT, Int.reduceLE, Int.reduceNe, Int.reduceToNat]
  refine callD_all snd7 en7 ?_
  simp -implicitDefEqProofs only [sims.1, fx.1, keeps.1, tick_on, calleeK, extractV, oneV, faddrK, nonnil, b_shr, b_shl, fieldK, Nat.reduceAdd, Nat.reduceMul, Nat.reduceSub, Nat.reduceEqDiff, Nat.reduceLT, Nat.reduceLeDiff, Nat.reduceBEq, Nat.reduceBNe, reduceIte, Int.reduceEq, Int.reduceLT, Int.reduceLE, Int.reduceNe, Int.reduceToNat, b45, pe26, lA, List.length_map]
  refine W_loopM (fun j : Nat => [(21, .int .i64 (l.length : Int)), (20, .isl 38 (l.map deC)), (3, .ptr 1 0), (4, .ptr 2 0), (22, .int .i64 (j : Int))])
    (fun j mm => j ≤ l.length ∧ j ≤ 200 ∧ ∃ N T R, N ≤ j ∧ Pl mm N T R) (fun j => l.length - j) 0 (by kernel_rfl) ⟨Nat.zero_le _, by decide, 0, _, _, Nat.le_refl _, Pl.new⟩ ?_
  rintro j mm ⟨h1, h2, N, T, R, hN, hP⟩
  rcases Nat.lt_or_ge j l.length with hj | hj
  · have c1 : decide (j < l.length) = true := by simpa using hj
    have io : ∀ {kk : IntKind}, iaddrS 38 (.isl 38 (l.map deC)) (.int kk (j : Int)) = some (.ip (deC l[j])) := fun {kk} => iaddrS_isl (by simp [hj])
    have pa : partK true 38 (deC l[j]) 0 = some (.agg (deC l[j])) := rfl
    have hst : ∀ (pre : Mem) (z : List V), z.length = 38 → storeK 38 (pre ++ [B.var 47 z]) (.ptr pre.length 0) (.agg (deC l[j])) = some (pre ++ [.var 47 (deC l[j])]) := fun pre z hz => st_de _ hz
    have g200 : decide ((200 : Int) ≤ (j : Int)) = decide (200 ≤ j) := by rw [Bool.eq_iff_iff, decide_eq_true_eq, decide_eq_true_eq]; omega
    have hw := hl _ (List.getElem_mem hj)
    have hbx : (mm ++ [B.var 47 (deC l[j])])[mm.length]? = some (.var 47 (deC l[j])) := by simp
    have hP1 := hP.app [.var 47 (deC l[j])]
    have hml : (mm ++ [B.var 47 (deC l[j])]).length = mm.length + 1 := by simp
    have p0 : (deC l[j])[0]? = some (.int .i64 l[j].d) := rfl
    have p1 : partK true 25 (deC l[j]) 1 = some (.agg (ruC l[j].r)) := rfl
    have p26 : (deC l[j])[26]? = some (.int .i64 l[j].id) := rfl
    have p27 : partK true 11 (deC l[j]) 27 = some (.agg (hC l[j].h)) := rfl
    rcases Nat.lt_or_ge j 200 with h6 | h6
    · have c6 : decide (200 ≤ j) = false := by simpa using h6
      simp -implicitDefEqProofs only [sims.1, fx.1, keeps.1, tick_on, calleeK, extractV, oneV, faddrK, nonnil, b_shr, b_shl, fieldK, Nat.reduceAdd, Nat.reduceMul, Nat.reduceSub, Nat.reduceEqDiff, Nat.reduceLT, Nat.reduceLeDiff, Nat.reduceBEq, Nat.reduceBNe, reduceIte, Int.reduceEq, Int.reduceLT, Int.reduceLE, Int.reduceNe, Int.reduceToNat, ltNat, c1, io, pa, hst, g200, c6, hbx, p0]
      refine cutIf (CV l j) ?_ (fun t => ?_) (fun t => ?_)
      · rintro e m ⟨e3, e4, e22, e20, e21, N, T, R, hN, hP⟩
        have w1 := wrap_i64s j (by omega)
        have s16 := snd16 hP.tb
        have s17 := snd17 hP.rb (fun x hx => (hP.wf x hx).1.1) (by have := hP.len; omega)
        rw [nR_all, ← hP.inv.rows] at s17
        have een : decide ((T.rows.length : Int) = (T.rows.length : Int)) = true := by simp
        simp -implicitDefEqProofs only [sims.1, fx.1, keeps.1, tick_on, calleeK, extractV, oneV, faddrK, nonnil, b_shr, b_shl, fieldK, Nat.reduceAdd, Nat.reduceMul, Nat.reduceSub, Nat.reduceEqDiff, Nat.reduceLT, Nat.reduceLeDiff, Nat.reduceBEq, Nat.reduceBNe, reduceIte, Int.reduceEq, Int.reduceLT, Int.reduceLE, Int.reduceNe, Int.reduceToNat, e3, e4]
        refine callD_all s16 en16 ?_
        simp -implicitDefEqProofs only [sims.1, fx.1, keeps.1, tick_on, calleeK, extractV, oneV, faddrK, nonnil, b_shr, b_shl, fieldK, Nat.reduceAdd, Nat.reduceMul, Nat.reduceSub, Nat.reduceEqDiff, Nat.reduceLT, Nat.reduceLeDiff, Nat.reduceBEq, Nat.reduceBNe, reduceIte, Int.reduceEq, Int.reduceLT, Int.reduceLE, Int.reduceNe, Int.reduceToNat, e3, e4]
        refine callD_all s17 en17 ?_
        simp -implicitDefEqProofs only [sims.1, fx.1, keeps.1, tick_on, calleeK, extractV, oneV, faddrK, nonnil, b_shr, b_shl, fieldK, Nat.reduceAdd, Nat.reduceMul, Nat.reduceSub, Nat.reduceEqDiff, Nat.reduceLT, Nat.reduceLeDiff, Nat.reduceBEq, Nat.reduceBNe, reduceIte, Int.reduceEq, Int.reduceLT, Int.reduceLE, Int.reduceNe, Int.reduceToNat, een, e22, w1]
        exact ⟨j + 1, Eq.trans (b := [(21, e 21), (20, e 20), (3, e 3), (4, e 4), (22, .int .i64 ((j + 1 : Nat) : Int))]) (by kernel_rfl) (by rw [e21, e20, e3, e4]), ⟨hj, by omega, N, T, R, by omega, hP⟩, by omega⟩
      · simp -implicitDefEqProofs only [sims.1, fx.1, keeps.1, tick_on, calleeK, extractV, oneV, faddrK, nonnil, b_shr, b_shl, fieldK, Nat.reduceAdd, Nat.reduceMul, Nat.reduceSub, Nat.reduceEqDiff, Nat.reduceLT, Nat.reduceLeDiff, Nat.reduceBEq, Nat.reduceBNe, reduceIte, Int.reduceEq, Int.reduceLT, Int.reduceLE, Int.reduceNe, Int.reduceToNat, hbx, p1]
        cases hc : chk l[j].r.w
        · refine callD_all (snd8n hw.1.1 hc) en8 ?_
          have hP2 := hP1.app [.var 32 (ruC l[j].r)]
          have hbx2 : (mm ++ [B.var 47 (deC l[j])] ++ [.var 32 (ruC l[j].r)])[mm.length]? = some (.var 47 (deC l[j])) := by rw [List.getElem?_append_left (by simp)]; exact hbx
          simp -implicitDefEqProofs only [sims.1, fx.1, keeps.1, tick_on, calleeK, extractV, oneV, faddrK, nonnil, b_shr, b_shl, fieldK, Nat.reduceAdd, Nat.reduceMul, Nat.reduceSub, Nat.reduceEqDiff, Nat.reduceLT, Nat.reduceLeDiff, Nat.reduceBEq, Nat.reduceBNe, reduceIte, Int.reduceEq, Int.reduceLT, Int.reduceLE, Int.reduceNe, Int.reduceToNat, hbx2, p1]
          refine callD_all (snd12n hw.1.1 hc) en12 ?_
          have d20 : decide ((20 : Int) = 20) = true := rfl
          have d00 : decide ((0 : Int) = 0) = true := rfl
          simp -implicitDefEqProofs only [sims.1, fx.1, keeps.1, tick_on, calleeK, extractV, oneV, faddrK, nonnil, b_shr, b_shl, fieldK, Nat.reduceAdd, Nat.reduceMul, Nat.reduceSub, Nat.reduceEqDiff, Nat.reduceLT, Nat.reduceLeDiff, Nat.reduceBEq, Nat.reduceBNe, reduceIte, Int.reduceEq, Int.reduceLT, Int.reduceLE, Int.reduceNe, Int.reduceToNat, d20, d00]
          exact ⟨rfl, rfl, rfl, rfl, rfl, N, T, R, by omega, hP2.app _⟩
        · have hat : T.at_.length ≤ N := hP.bn.at_
          refine callD_allQ (snd8 hP1.tb (hP1.bn.ok (by omega)) hw.1.1 hc (by omega)) en8 ?_
          rintro rr ⟨m', T', rfl, htb, hadd, hk1, hpos⟩
          refine ⟨_, _, rfl, ?_⟩
          have hbn : mm.length ∉ posT 1 T := fun hh => Nat.lt_irrefl _ (hP.tb.lt _ hh)
          have hbx2 : m'[mm.length]? = some (.var 47 (deC l[j])) := by rw [hk1.2 _ (by omega) hbn]; exact hbx
          simp -implicitDefEqProofs only [sims.1, fx.1, keeps.1, tick_on, calleeK, extractV, oneV, faddrK, nonnil, b_shr, b_shl, fieldK, Nat.reduceAdd, Nat.reduceMul, Nat.reduceSub, Nat.reduceEqDiff, Nat.reduceLT, Nat.reduceLeDiff, Nat.reduceBEq, Nat.reduceBNe, reduceIte, Int.reduceEq, Int.reduceLT, Int.reduceLE, Int.reduceNe, Int.reduceToNat, hbx2, p1]
          have hlen2 := hP.len
          have hlast := hP.last
          have hTl := hP.bn.last
          refine callD_allQ (snd12 (hP1.rb1 hk1) hw.1 hc (by omega) (by omega)) en12 ?_
          rintro rr ⟨m'', s, rfl, hrb, hk2, hs⟩
          refine ⟨_, _, rfl, ?_⟩
          have d00 : decide ((0 : Int) = 0) = true := rfl
          have dll : decide (T.last + 1 = T.last + 1) = true := by simp
          simp -implicitDefEqProofs only [sims.1, fx.1, keeps.1, tick_on, calleeK, extractV, oneV, faddrK, nonnil, b_shr, b_shl, fieldK, Nat.reduceAdd, Nat.reduceMul, Nat.reduceSub, Nat.reduceEqDiff, Nat.reduceLT, Nat.reduceLeDiff, Nat.reduceBEq, Nat.reduceBNe, reduceIte, Int.reduceEq, Int.reduceLT, Int.reduceLE, Int.reduceNe, Int.reduceToNat, hlast, dll, d00]
          exact ⟨rfl, rfl, rfl, rfl, rfl, N + 1, T', ⟨R.L ++ [(R.last + 1, l[j].r)], R.last + 1, s⟩, by omega, hP1.added hw.1 hc htb hadd hk1 hpos hrb hk2 hs⟩
      · simp -implicitDefEqProofs only [sims.1, fx.1, keeps.1, tick_on, calleeK, extractV, oneV, faddrK, nonnil, b_shr, b_shl, fieldK, Nat.reduceAdd, Nat.reduceMul, Nat.reduceSub, Nat.reduceEqDiff, Nat.reduceLT, Nat.reduceLeDiff, Nat.reduceBEq, Nat.reduceBNe, reduceIte, Int.reduceEq, Int.reduceLT, Int.reduceLE, Int.reduceNe, Int.reduceToNat]
        refine cutIf (CV l j) (fun e m h => h) (fun t => ?_) (fun t => ?_)
        · simp -implicitDefEqProofs only [sims.1, fx.1, keeps.1, tick_on, calleeK, extractV, oneV, faddrK, nonnil, b_shr, b_shl, fieldK, Nat.reduceAdd, Nat.reduceMul, Nat.reduceSub, Nat.reduceEqDiff, Nat.reduceLT, Nat.reduceLeDiff, Nat.reduceBEq, Nat.reduceBNe, reduceIte, Int.reduceEq, Int.reduceLT, Int.reduceLE, Int.reduceNe, Int.reduceToNat]
          have hbn : mm.length ∉ posT 1 T := fun hh => Nat.lt_irrefl _ (hP.tb.lt _ hh)
          obtain ⟨bb, hbb⟩ : ∃ bb, bb = decide ((flt l[j].id R.L).length < R.L.length) := ⟨_, rfl⟩
          refine w_calls (fun k m => m[mm.length]? = some (.var 47 (deC l[j])) ∧ match k with
            | 0 => m = mm ++ [.var 47 (deC l[j])]
            | 1 => ∃ T', TB m 1 T' ∧ Inv2 T' (flt l[j].id R.L) ∧ Bn T' N ∧ T'.last = T.last ∧ Keep (mm ++ [.var 47 (deC l[j])]) m (posT 1 T) ∧ ∀ k ∈ posT 1 T', k ∈ posT 1 T
            | _ => ∃ T' R', Pl m N T' R') [3, 7]
            [.ptr 1 0, .ptr mm.length 26, .int .i64 l[j].id, .bool bb, .ptr 2 0, .ptr mm.length 26, .int .i64 l[j].id, .bool bb, .bool false] (by kernel_rfl) ⟨hbx, rfl⟩ ?_ ?_
          · refine okN_pure rfl rfl rfl (fun _ _ _ => rfl) ?_
            refine okN_pure rfl rfl rfl (fun _ _ _ => by kernel_rfl) ?_
            refine okN_pure rfl rfl rfl (fun k m h => by
              have h1 := h.1
              show Option.map (Res.val · m) (loadV Try.prog m 3 (.ptr mm.length 26)) = _
              simp -implicitDefEqProofs only [sims.1, fx.1, keeps.1, tick_on, calleeK, extractV, oneV, faddrK, nonnil, b_shr, b_shl, fieldK, Nat.reduceAdd, Nat.reduceMul, Nat.reduceSub, Nat.reduceEqDiff, Nat.reduceLT, Nat.reduceLeDiff, Nat.reduceBEq, Nat.reduceBNe, reduceIte, Int.reduceEq, Int.reduceLT, Int.reduceLE, Int.reduceNe, Int.reduceToNat, h1, p26]) ?_
            refine okN_call rfl (show calleeV (evO _) _ = some (13, [.ptr 1 0, .int .i64 l[j].id]) by kernel_rfl) rfl rfl (fun m h => ?_) ?_
            · obtain ⟨h1, rfl⟩ := h
              refine callD_allQ (snd13u (id := l[j].id) hP1.tb hP1.inv hP1.bn (by omega) fun x hx => (hP.wf x hx).1.1) en13 ?_
              rintro rr ⟨m', T', rfl, g1, g2, g3, g4, g5, g6⟩
              exact ⟨_, _, rfl, by rw [hbb], by rw [g5.2 _ (by omega) hbn]; exact hbx, T', g1, g2, g3, g4, g5, g6⟩
            refine okN_pure rfl rfl rfl (fun _ _ _ => rfl) ?_
            refine okN_pure rfl rfl rfl (fun _ _ _ => by kernel_rfl) ?_
            refine okN_pure rfl rfl rfl (fun k m h => by
              have h1 := h.1
              show Option.map (Res.val · m) (loadV Try.prog m 3 (.ptr mm.length 26)) = _
              simp -implicitDefEqProofs only [sims.1, fx.1, keeps.1, tick_on, calleeK, extractV, oneV, faddrK, nonnil, b_shr, b_shl, fieldK, Nat.reduceAdd, Nat.reduceMul, Nat.reduceSub, Nat.reduceEqDiff, Nat.reduceLT, Nat.reduceLeDiff, Nat.reduceBEq, Nat.reduceBNe, reduceIte, Int.reduceEq, Int.reduceLT, Int.reduceLE, Int.reduceNe, Int.reduceToNat, h1, p26]) ?_
            refine okN_call rfl (show calleeV (evO _) _ = some (14, [.ptr 2 0, .int .i64 l[j].id]) by kernel_rfl) rfl rfl (fun m h => ?_) ?_
            · obtain ⟨h1, T', g1, g2, g3, g4, g5, g6⟩ := h
              have hlen2 := hP.len
              refine callD_allQ (snd14 (id := l[j].id) (hP1.rb1 g5) (fun x hx => (hP.wf x hx).1) (by omega)) en14 ?_
              rintro rr ⟨m', s, rfl, q1, q2, q3⟩
              have hml2 := g5.1
              rw [hml] at hml2
              have hbn2 : mm.length ∉ posW 2 R := fun hh => Nat.lt_irrefl _ (hP.rb.lt _ hh)
              refine ⟨_, _, rfl, by rw [hbb], by rw [q2.2 _ (by omega) hbn2]; exact h1, T', ⟨flt l[j].id R.L, R.last, s⟩, ?_⟩
              refine ⟨g1.of fun k hk => q2.2 k (g1.lt k hk) (hP.dj k (g6 k hk)), q1, fun k hk hh => ?_, g2, g3, ?_, fun x hx => hP.wf x (List.mem_filter.1 hx).1, Nat.le_trans (List.length_filter_le _ _) hP.len⟩
              · have hk2 := hP.tb.lt k (g6 k hk)
                rcases mem_posW.1 hh with rfl | ⟨_, rfl⟩
                · exact hP.dj 2 (g6 2 hk) (mem_posW.2 (.inl rfl))
                · omega
              · show R.last = T'.last
                rw [g4, hP.last]
            refine okN_pure rfl rfl rfl (fun _ _ _ => by cases bb <;> kernel_rfl) ?_
            exact okN_nil
          · rintro m' ⟨_, T', R', hP'⟩
            simp -implicitDefEqProofs only [sims.1, fx.1, keeps.1, tick_on, calleeK, extractV, oneV, faddrK, nonnil, b_shr, b_shl, fieldK, Nat.reduceAdd, Nat.reduceMul, Nat.reduceSub, Nat.reduceEqDiff, Nat.reduceLT, Nat.reduceLeDiff, Nat.reduceBEq, Nat.reduceBNe, reduceIte, Int.reduceEq, Int.reduceLT, Int.reduceLE, Int.reduceNe, Int.reduceToNat, putAll]
            exact ⟨rfl, rfl, rfl, rfl, rfl, N, T', R', by omega, hP'⟩
        · simp -implicitDefEqProofs only [sims.1, fx.1, keeps.1, tick_on, calleeK, extractV, oneV, faddrK, nonnil, b_shr, b_shl, fieldK, Nat.reduceAdd, Nat.reduceMul, Nat.reduceSub, Nat.reduceEqDiff, Nat.reduceLT, Nat.reduceLeDiff, Nat.reduceBEq, Nat.reduceBNe, reduceIte, Int.reduceEq, Int.reduceLT, Int.reduceLE, Int.reduceNe, Int.reduceToNat]
          refine cutIf (CV l j) (fun e m h => h) (fun t => ?_) (fun t => ?_)
          · simp -implicitDefEqProofs only [sims.1, fx.1, keeps.1, tick_on, calleeK, extractV, oneV, faddrK, nonnil, b_shr, b_shl, fieldK, Nat.reduceAdd, Nat.reduceMul, Nat.reduceSub, Nat.reduceEqDiff, Nat.reduceLT, Nat.reduceLeDiff, Nat.reduceBEq, Nat.reduceBNe, reduceIte, Int.reduceEq, Int.reduceLT, Int.reduceLE, Int.reduceNe, Int.reduceToNat, hbx, p27]
            have s9 := snd9 hP1.tb (hP1.bn.ok (by omega)) hw.2
            have hsame := find_same hP1.tb hP1.inv hP1.wf hw.2
            obtain ⟨fb, hfb⟩ : ∃ fb, fb = fndB l[j].h T.rows (0, 0) := ⟨_, rfl⟩
            rw [← hfb] at s9 hsame
            refine callD_allQ s9 en9 ?_
            rintro rr ⟨b, rfl⟩
            refine ⟨_, _, rfl, ?_⟩
            have hP2 := hP1.app [.var 25 (hC l[j].h), .var 65 (inC b)]
            have hbx2 : (mm ++ [B.var 47 (deC l[j])] ++ [B.var 25 (hC l[j].h), .var 65 (inC b)])[mm.length]? = some (.var 47 (deC l[j])) := by rw [List.getElem?_append_left (by simp)]; exact hbx
            have hlen2 := hP.len
            have s15 := snd15 hP2.rb (fun x hx => (hP.wf x hx).1.1) hw.2 (by omega)
            rw [hsame] at s15
            simp -implicitDefEqProofs only [sims.1, fx.1, keeps.1, tick_on, calleeK, extractV, oneV, faddrK, nonnil, b_shr, b_shl, fieldK, Nat.reduceAdd, Nat.reduceMul, Nat.reduceSub, Nat.reduceEqDiff, Nat.reduceLT, Nat.reduceLeDiff, Nat.reduceBEq, Nat.reduceBNe, reduceIte, Int.reduceEq, Int.reduceLT, Int.reduceLE, Int.reduceNe, Int.reduceToNat, hbx2, p27]
            refine callD_all s15 en15 ?_
            have dff : decide (fb.1 = fb.1) = true := by simp
            have dbb : (decide (0 < fb.1) == decide (0 < fb.1)) = true := by simp
            simp -implicitDefEqProofs only [sims.1, fx.1, keeps.1, tick_on, calleeK, extractV, oneV, faddrK, nonnil, b_shr, b_shl, fieldK, Nat.reduceAdd, Nat.reduceMul, Nat.reduceSub, Nat.reduceEqDiff, Nat.reduceLT, Nat.reduceLeDiff, Nat.reduceBEq, Nat.reduceBNe, reduceIte, Int.reduceEq, Int.reduceLT, Int.reduceLE, Int.reduceNe, Int.reduceToNat, dff, dbb]
            exact ⟨rfl, rfl, rfl, rfl, rfl, N, T, R, by omega, hP2.app _⟩
          · simp -implicitDefEqProofs only [sims.1, fx.1, keeps.1, tick_on, calleeK, extractV, oneV, faddrK, nonnil, b_shr, b_shl, fieldK, Nat.reduceAdd, Nat.reduceMul, Nat.reduceSub, Nat.reduceEqDiff, Nat.reduceLT, Nat.reduceLeDiff, Nat.reduceBEq, Nat.reduceBNe, reduceIte, Int.reduceEq, Int.reduceLT, Int.reduceLE, Int.reduceNe, Int.reduceToNat]
            exact ⟨rfl, rfl, rfl, rfl, rfl, N, T, R, by omega, hP1⟩
    · have c6 : decide (200 ≤ j) = true := by simpa using h6
      simp -implicitDefEqProofs only [sims.1, fx.1, keeps.1, tick_on, calleeK, extractV, oneV, faddrK, nonnil, b_shr, b_shl, fieldK, Nat.reduceAdd, Nat.reduceMul, Nat.reduceSub, Nat.reduceEqDiff, Nat.reduceLT, Nat.reduceLeDiff, Nat.reduceBEq, Nat.reduceBNe, reduceIte, Int.reduceEq, Int.reduceLT, Int.reduceLE, Int.reduceNe, Int.reduceToNat, ltNat, c1, io, pa, hst, g200, c6]
      refine callD_ans ans11 en11 rfl rfl ?_
      simp -implicitDefEqProofs only [sims.1, fx.1, keeps.1, tick_on, calleeK, extractV, oneV, faddrK, nonnil, b_shr, b_shl, fieldK, Nat.reduceAdd, Nat.reduceMul, Nat.reduceSub, Nat.reduceEqDiff, Nat.reduceLT, Nat.reduceLeDiff, Nat.reduceBEq, Nat.reduceBNe, reduceIte, Int.reduceEq, Int.reduceLT, Int.reduceLE, Int.reduceNe, Int.reduceToNat]
      exact ans_ret rfl
  · have c1 : decide (j < l.length) = false := by simpa using hj
    simp -implicitDefEqProofs only [sims.1, fx.1, keeps.1, tick_on, calleeK, extractV, oneV, faddrK, nonnil, b_shr, b_shl, fieldK, Nat.reduceAdd, Nat.reduceMul, Nat.reduceSub, Nat.reduceEqDiff, Nat.reduceLT, Nat.reduceLeDiff, Nat.reduceBEq, Nat.reduceBNe, reduceIte, Int.reduceEq, Int.reduceLT, Int.reduceLE, Int.reduceNe, Int.reduceToNat, ltNat, c1]
    refine callD_ans ans11 en11 rfl rfl ?_
    simp -implicitDefEqProofs only [sims.1, fx.1, keeps.1, tick_on, calleeK, extractV, oneV, faddrK, nonnil, b_shr, b_shl, fieldK, Nat.reduceAdd, Nat.reduceMul, Nat.reduceSub, Nat.reduceEqDiff, Nat.reduceLT, Nat.reduceLeDiff, Nat.reduceBEq, Nat.reduceBNe, reduceIte, Int.reduceEq, Int.reduceLT, Int.reduceLE, Int.reduceNe, Int.reduceToNat]
    exact ans_ret rfl
end Go.Proofs.Ytffhmbdpmpgddaa
