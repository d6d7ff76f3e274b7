/- The rule that is found is the best one. No condition. -/
import Derived.Test.YtffhmbdpmpgddaaWf
import Derived.Test.YtffhmbdpmpgddaaWk
import Derived.Test.YtffhmbdpmpgddaaTa
namespace Go.Proofs.Ytffhmbdpmpgddaa
open Go Ab
set_option linter.unusedSimpArgs false
set_option linter.unusedVariables false
set_option maxRecDepth 20000

theorem pe26 (n o : Nat) (env : Env) : binV Try.prog .eql 26 (.ptr n o) (evO env (.const (.pointer none))) = some (.bool false) := rfl
set_option maxHeartbeats 1000000 in
theorem snd8n {m : Mem} {p : Nat} {r : Ru} (hr : U64 22 r.w) (hc : chk r.w = false) : Snd Try.prog 8 [.ptr p 0, .agg (ruC r)] m fun q => q = .ret (.tup [.int .i64 0, .int .i64 20]) (m ++ [.var 32 (ruC r)]) := by
  refine Snd_of_W fol rfl rfl (by kernel_rfl) (by kernel_rfl) ?_
  have pM : partK true 22 (ruC r) 1 = some (mv r.w) := rfl
  have a18 : Ans Try.prog 18 [mv r.w] (.int .i64 20) := by
    have := ans18 r.w hr
    rwa [hc] at this
  have hB : (m ++ [B.var 32 (ruC r)])[m.length]? = some (B.var 32 (ruC r)) := by simp
  have e0 : decide ((20 : Int) = 0) = false := rfl
  simp -implicitDefEqProofs only [sims.1, fx.1, keeps.1, tick_on, calleeK, extractV, oneV, faddrK, nonnil, b_shr, b_shl, fieldK, Nat.reduceAdd, Nat.reduceMul, Nat.reduceSub, Nat.reduceEqDiff, Nat.reduceLT, Nat.reduceLeDiff, Nat.reduceBEq, Nat.reduceBNe, reduceIte, Int.reduceEq, Int.reduceLT, Int.reduceLE, Int.reduceNe, Int.reduceToNat, pe26, hB, pM]
  refine callD_ans a18 en18 (by simp only [nfs, nf, mv, nfs_cl, Bool.and_self]) rfl ?_
  simp -implicitDefEqProofs only [sims.1, fx.1, keeps.1, tick_on, calleeK, extractV, oneV, faddrK, nonnil, b_shr, b_shl, fieldK, Nat.reduceAdd, Nat.reduceMul, Nat.reduceSub, Nat.reduceEqDiff, Nat.reduceLT, Nat.reduceLeDiff, Nat.reduceBEq, Nat.reduceBNe, reduceIte, Int.reduceEq, Int.reduceLT, Int.reduceLE, Int.reduceNe, Int.reduceToNat, e0]

/-! ### The law's own parts -/
def Lof (inl : List Ru) : List (Int × Ru) := inl.mapIdx fun i r => (((i + 1 : Nat) : Int), r)
theorem Lof_app (inl : List Ru) (r : Ru) : Lof (inl ++ [r]) = Lof inl ++ [((inl.length : Int) + 1, r)] := by
  unfold Lof
  rw [List.mapIdx_concat]
  simp
theorem mem_Lof {inl : List Ru} {k : Int} {r : Ru} (h : (k, r) ∈ Lof inl) : ∃ i : Nat, inl[i]? = some r ∧ k = (i : Int) + 1 := by
  unfold Lof at h
  obtain ⟨i, hi⟩ := List.getElem?_of_mem h
  rw [List.getElem?_mapIdx] at hi
  cases e : inl[i]? with
  | none => rw [e] at hi; cases hi
  | some x => rw [e] at hi; cases hi; exact ⟨i, e, by simp⟩
theorem Lof_mem {inl : List Ru} {i : Nat} {r : Ru} (h : inl[i]? = some r) : ((i : Int) + 1, r) ∈ Lof inl := by
  unfold Lof
  refine List.mem_of_getElem? (i := i) ?_
  rw [List.getElem?_mapIdx, h]
  simp
def in6 (n q : Nat) : V := match n with
  | 0 => .nils
  | k + 1 => .sl 25 q 0 (k + 1)
/-- What holds of the table and the list beside it. -/
structure Has (h : Nat → Nat) (mm : Mem) (n q : Nat) (T : Tbl) (inl : List Ru) : Prop where
  len : inl.length = n
  tb : TB mm 2 T
  inv : Inv T (Lof inl)
  bn : Bn T n
  wf : ∀ r ∈ inl, wfR r ∧ chk r.w = true
  hd : mm[0]? = some (.var 25 (hC h))
  n0 : 0 ∉ posT 2 T
  row : n ≠ 0 → mm[q]? = some (.row 32 25 (inl.map ruC)) ∧ q ∉ posT 2 T
def CB (h : Nat → Nat) (e : Env) (mm : Mem) : Prop := e 5 = .ptr 2 0 ∧ e 3 = .ptr 0 0 ∧ ∃ n q T inl, e 6 = in6 n q ∧ n ≤ 60 ∧ Has h mm n q T inl
theorem cutBlk {P : Program} {K0 : Nat} {R : List Nat} {c : Code} {E : Nat → List Nat} {L : List Nat} {env : Env} {m : Mem} {id : Nat} {K : Env → Mem → Prop} {Q : Ex → Env → Mem → Prop} (C : Env → Mem → Prop)
    (h : W P K0 R c E L env m (blockQ id (seqQ C Q))) (hK : ∀ e m, C e m → K e m) : W P K0 R c E L env m (blockQ id (seqQ K Q)) := by
  refine W_mono _ _ _ _ _ _ _ (fun ex e m hh => ?_) h
  cases ex with
  | nrm => exact hK e m hh
  | ret => exact hh
  | pan v => exact hh
  | exit i =>
    simp only [blockQ] at hh ⊢
    cases hb : Nat.beq i id with
    | true => rw [hb] at hh; exact hK e m hh
    | false => rw [hb] at hh; exact hh
theorem st_ru {pre : Mem} {z : List V} (x : Ru) (hz : z.length = 25) : storeK 25 (pre ++ [.var 32 z]) (.ptr pre.length 0) (.agg (ruC x)) = some (pre ++ [.var 32 (ruC x)]) := by
  have h : (pre ++ [B.var 32 z])[pre.length]? = some (B.var 32 z) := by simp
  have h1 : (cellsOfV (V.agg (ruC x))).length = 25 ∧ cellsB (V.agg (ruC x)) = true := ⟨rfl, rfl⟩
  have h6 : 0 + (cellsOfV (V.agg (ruC x))).length ≤ z.length := by rw [hz]; exact Nat.le_refl 25
  unfold storeK
  rw [if_pos h1]
  simp only [h]
  rw [if_pos h6]
  have : splice z 0 (cellsOfV (V.agg (ruC x))) = ruC x := splice_all (by rw [hz]; rfl)
  rw [this]
  simp
theorem new_tb (h : Nat → Nat) : Has h [.var 25 (hC h), .map [] [] 0, .var 55 [.nils, .mp 1, .int .i64 0]] 0 0 ⟨[], [], 0, 1, 1⟩ [] :=
  ⟨rfl, ⟨rfl, ⟨[], 0, rfl, rfl, List.nodup_nil, fun _ h => by simp at h⟩, fun h => absurd rfl h, fun _ h => by simp at h, by decide⟩,
   ⟨fun _ h => by simp at h, fun _ h => by simp [Lof] at h, List.Pairwise.nil, fun _ h => by simp at h, fun _ h => by simp at h, fun _ h => by simp at h, List.Pairwise.nil, fun _ h => by simp [Lof] at h⟩,
   ⟨fun _ h => by simp at h, fun _ h => by simp at h, Nat.le_refl _, fun _ h => by simp at h, fun _ h => by simp at h, rfl, Nat.le_refl _, fun _ h => by simp at h⟩,
   fun _ h => by simp at h, rfl, by decide, fun h => absurd rfl h⟩
set_option maxHeartbeats 8000000 in
theorem ans3i (l : List Ru) (h : Nat → Nat) (hl : ∀ x ∈ l, wfR x) (hlen : l.length < 9223372036854775807) (hh : U64 11 h) : Ans Try.prog 3 [.isl 25 (l.map ruC), .agg (hC h)] (.bool true) := by
  refine Snd_of_W fol rfl rfl (by kernel_rfl) (by kernel_rfl) ?_
  simp -implicitDefEqProofs only [sims.1, fx.1, keeps.1, tick_on, calleeK, extractV, oneV, faddrK, nonnil, b_shr, b_shl, fieldK, Nat.reduceAdd, Nat.reduceMul, Nat.reduceSub, Nat.reduceEqDiff, Nat.reduceLT, Nat.reduceLeDiff, Nat.reduceBEq, Nat.reduceBNe, reduceIte, Int.reduceEq, Int.reduceLT, Int.reduceLE, Int.reduceNe, Int.reduceToNat]
  refine .inl ⟨rfl, en7, _, snd7, ?_⟩
  rintro _ rfl
  refine ⟨rfl, ?_⟩
  have e1 : (backV (rootsV [B.var 25 (hC h)] []) [B.var 25 (hC h)] (V.ptr 1 0) [.map [] [] 0, .var 55 [.nils, .mp 0, .int .i64 0]]) = (.ptr 2 0, [.var 25 (hC h), .map [] [] 0, .var 55 [.nils, .mp 1, .int .i64 0]]) := rfl
  have lA : ∀ m, lenV Try.prog m 22 (.isl 25 (l.map ruC)) = some (.int .i64 (l.length : Int)) := fun m => by rw [lni22, List.length_map]
  simp -implicitDefEqProofs only [sims.1, fx.1, keeps.1, tick_on, calleeK, extractV, oneV, faddrK, nonnil, b_shr, b_shl, fieldK, Nat.reduceAdd, Nat.reduceMul, Nat.reduceSub, Nat.reduceEqDiff, Nat.reduceLT, Nat.reduceLeDiff, Nat.reduceBEq, Nat.reduceBNe, reduceIte, Int.reduceEq, Int.reduceLT, Int.reduceLE, Int.reduceNe, Int.reduceToNat, e1, pe26, lA, List.length_map]
  refine cutBlk (CB h) ?_ ?_
  · refine W_loopM (fun x : Nat × Nat × Nat => [(19, .int .i64 (l.length : Int)), (18, .isl 25 (l.map ruC)), (20, .int .i64 (x.1 : Int)), (5, .ptr 2 0), (3, .ptr 0 0), (6, in6 x.2.1 x.2.2)])
      (fun x mm => x.1 ≤ l.length ∧ x.1 ≤ 60 ∧ x.2.1 ≤ x.1 ∧ ∃ T inl, Has h mm x.2.1 x.2.2 T inl) (fun x => l.length - x.1) (0, 0, 0) (by kernel_rfl) ⟨Nat.zero_le _, by decide, Nat.le_refl _, _, _, new_tb h⟩ ?_
    rintro ⟨j, n, q⟩ mm ⟨h1, h2, h3, T, inl, hH⟩
    simp only at h1 h2 h3 hH
    rcases Nat.lt_or_ge j l.length with hj | hj
    · have c1 : decide (j < l.length) = true := by simpa using hj
      have io : ∀ {kk : IntKind}, iaddrS 25 (.isl 25 (l.map ruC)) (.int kk (j : Int)) = some (.ip (ruC l[j])) := fun {kk} => iaddrS_isl (by simp [hj])
      have pa : partK true 25 (ruC l[j]) 0 = some (.agg (ruC l[j])) := rfl
      simp -implicitDefEqProofs only [sims.1, fx.1, keeps.1, tick_on, calleeK, extractV, oneV, faddrK, nonnil, b_shr, b_shl, fieldK, Nat.reduceAdd, Nat.reduceMul, Nat.reduceSub, Nat.reduceEqDiff, Nat.reduceLT, Nat.reduceLeDiff, Nat.reduceBEq, Nat.reduceBNe, reduceIte, Int.reduceEq, Int.reduceLT, Int.reduceLE, Int.reduceNe, Int.reduceToNat, ltNat, c1, io, pa]
      have hst : storeK 25 (mm ++ [B.var 32 [.int .i64 0, .int .u64 0, .int .u64 0, .int .u64 0, .int .u64 0, .int .u64 0, .int .u64 0, .int .u64 0, .int .u64 0, .int .u64 0, .int .u64 0, .int .u64 0, .int .u64 0, .int .u64 0, .int .u64 0, .int .u64 0, .int .u64 0, .int .u64 0, .int .u64 0, .int .u64 0, .int .u64 0, .int .u64 0, .int .u64 0, .nils, .int .u64 0]]) (.ptr mm.length 0) (.agg (ruC l[j])) = some (mm ++ [.var 32 (ruC l[j])]) := st_ru _ rfl
      have g60 : decide ((60 : Int) ≤ (j : Int)) = decide (60 ≤ j) := by rw [Bool.eq_iff_iff, decide_eq_true_eq, decide_eq_true_eq]; omega
      have hlt := hH.tb.lt
      have hnb : mm.length ∉ posT 2 T := fun hh => Nat.lt_irrefl _ (hlt _ hh)
      have hH1 : Has h (mm ++ [.var 32 (ruC l[j])]) n q T inl := by
        have h0l := (List.getElem?_eq_some_iff.1 hH.hd).1
        refine ⟨hH.len, hH.tb.app _, hH.inv, hH.bn, hH.wf, by rw [List.getElem?_append_left h0l]; exact hH.hd, hH.n0, fun hn => ⟨?_, (hH.row hn).2⟩⟩
        rw [List.getElem?_append_left (List.getElem?_eq_some_iff.1 (hH.row hn).1).1]
        exact (hH.row hn).1
      have hbx : (mm ++ [B.var 32 (ruC l[j])])[mm.length]? = some (.var 32 (ruC l[j])) := by simp
      have hml : (mm ++ [B.var 32 (ruC l[j])]).length = mm.length + 1 := by simp
      rcases Nat.lt_or_ge j 60 with h6 | h6
      · have c6 : decide (60 ≤ j) = false := by simpa using h6
        have w1 := wrap_i64s j (by omega)
        have hw := hl _ (List.getElem_mem hj)
        simp -implicitDefEqProofs only [sims.1, fx.1, keeps.1, tick_on, calleeK, extractV, oneV, faddrK, nonnil, b_shr, b_shl, fieldK, Nat.reduceAdd, Nat.reduceMul, Nat.reduceSub, Nat.reduceEqDiff, Nat.reduceLT, Nat.reduceLeDiff, Nat.reduceBEq, Nat.reduceBNe, reduceIte, Int.reduceEq, Int.reduceLT, Int.reduceLE, Int.reduceNe, Int.reduceToNat, hst, g60, c6, hbx, pa]
        cases hc : chk l[j].w
        · refine callD_all (snd8n hw.1 hc) en8 ?_
          have e20 : decide ((20 : Int) = 0) = false := rfl
          simp -implicitDefEqProofs only [sims.1, fx.1, keeps.1, tick_on, calleeK, extractV, oneV, faddrK, nonnil, b_shr, b_shl, fieldK, Nat.reduceAdd, Nat.reduceMul, Nat.reduceSub, Nat.reduceEqDiff, Nat.reduceLT, Nat.reduceLeDiff, Nat.reduceBEq, Nat.reduceBNe, reduceIte, Int.reduceEq, Int.reduceLT, Int.reduceLE, Int.reduceNe, Int.reduceToNat, e20, w1]
          refine ⟨(j + 1, n, q), by kernel_rfl, ⟨hj, by simp only; omega, by simp only; omega, T, inl, ?_⟩, by simp only; omega⟩
          have h0l := (List.getElem?_eq_some_iff.1 hH1.hd).1
          refine ⟨hH1.len, hH1.tb.app _, hH1.inv, hH1.bn, hH1.wf, by rw [List.getElem?_append_left h0l]; exact hH1.hd, hH1.n0, fun hn => ⟨?_, (hH1.row hn).2⟩⟩
          rw [List.getElem?_append_left (List.getElem?_eq_some_iff.1 (hH1.row hn).1).1]
          exact (hH1.row hn).1
        · refine callD_allQ (snd8 hH1.tb (hH1.bn.ok (by omega)) hw.1 hc (by have := hH1.bn.at_; omega)) en8 ?_
          rintro rr ⟨m', T', rfl, htb, hadd, ⟨hk1, hk2⟩, hpos⟩
          refine ⟨_, _, rfl, ?_⟩
          have e00 : decide ((0 : Int) = 0) = true := rfl
          rw [hml] at hk1 hk2 hpos
          have hbx' : m'[mm.length]? = some (.var 32 (ruC l[j])) := by rw [hk2 _ (by omega) hnb]; exact hbx
          obtain ⟨m5, happ, hl5, hq5, hk5⟩ := app_any (t := 22) (e := 32) (s := 25) (by kernel_rfl) zE32 (by kernel_rfl) (mm := m') (q := q) (l := inl.map ruC) (v := in6 n q) (ruC l[j]) (by
            cases n with
            | zero => exact .inl ⟨by rw [List.length_eq_zero_iff.1 hH1.len]; rfl, rfl⟩
            | succ k =>
              obtain ⟨g1, g2⟩ := hH1.row (by simp)
              refine .inr ⟨fun ee => ?_, ?_, ?_⟩
              · have := congrArg List.length ee
                rw [List.length_map, hH1.len] at this
                simp at this
              · rw [List.length_map, hH1.len]; rfl
              · rw [hk2 q (by have := (List.getElem?_eq_some_iff.1 g1).1; rw [hml] at this; omega) g2]; exact g1) (by rw [List.length_map, hH1.len]; omega)
          rw [List.length_map, hH1.len] at happ
          have bsr := bs22 hw
          have lnn : ∀ (mm : Mem) (s k : Nat), lenV Try.prog mm 22 (.sl 25 s 0 k) = some (.int .i64 (k : Int)) := fun _ _ _ => rfl
          have hTl : T.last + 1 = ((n + 1 : Nat) : Int) := by rw [hH1.bn.last]; omega
          have een : decide ((((n + 1 : Nat) : Int)) = ((n + 1 : Nat) : Int)) = true := by simp
          simp -implicitDefEqProofs only [sims.1, fx.1, keeps.1, tick_on, calleeK, extractV, oneV, faddrK, nonnil, b_shr, b_shl, fieldK, Nat.reduceAdd, Nat.reduceMul, Nat.reduceSub, Nat.reduceEqDiff, Nat.reduceLT, Nat.reduceLeDiff, Nat.reduceBEq, Nat.reduceBNe, reduceIte, Int.reduceEq, Int.reduceLT, Int.reduceLE, Int.reduceNe, Int.reduceToNat, e00, hbx', pa, bsr, happ, lnn, hTl, een, w1]
          refine ⟨(j + 1, n + 1, m'.length + 1), by kernel_rfl, ⟨hj, by simp only; omega, by simp only; omega, T', inl ++ [l[j]], ?_⟩, by simp only; omega⟩
          have hqn : n ≠ 0 → q < mm.length + 1 ∧ q ∉ posT 2 T ∧ 0 ≠ q := fun hn => by
            obtain ⟨g1, g2⟩ := hH1.row hn
            have g3 := (List.getElem?_eq_some_iff.1 g1).1
            rw [hml] at g3
            refine ⟨g3, g2, fun e => ?_⟩
            rw [← e, hH1.hd] at g1
            cases g1
          have hqk : ∀ k, (n ≠ 0 → k ≠ q) → k ≠ q ∨ inl.map ruC = [] := fun k hk => by
            cases n with
            | zero => exact .inr (by rw [List.length_eq_zero_iff.1 hH1.len]; rfl)
            | succ a => exact .inl (hk (by simp))
          refine ⟨by simp [hH1.len], htb.of fun k hk => hk5 k (htb.lt k hk) (hqk k fun hn e => ?_), ?_, hH1.bn.added hadd hw.1, fun r hr => ?_, ?_, fun hh => ?_, fun _ => ⟨?_, fun hh => ?_⟩⟩
          · obtain ⟨g1, g2, _⟩ := hqn hn
            rcases hpos k hk with hh | hh
            · exact g2 (by rw [← e]; exact hh)
            · omega
          · have := hH1.inv.added hadd (by rw [hH1.bn.last]; omega)
            rw [Lof_app, hH1.len]
            rwa [hH1.bn.last] at this
          · rcases List.mem_append.1 hr with hr | hr
            · exact hH1.wf r hr
            · rw [List.mem_singleton.1 hr]; exact ⟨hw, hc⟩
          · rw [hk5 0 (by omega) (hqk 0 fun hn => (hqn hn).2.2), hk2 0 (by omega) hH1.n0]
            exact hH1.hd
          · rcases hpos 0 hh with hh | hh
            · exact hH1.n0 hh
            · omega
          · rw [List.map_append]
            exact hq5
          · have := htb.lt _ hh
            simp only at this
            omega
      · have c6 : decide (60 ≤ j) = true := by simpa using h6
        simp -implicitDefEqProofs only [sims.1, fx.1, keeps.1, tick_on, calleeK, extractV, oneV, faddrK, nonnil, b_shr, b_shl, fieldK, Nat.reduceAdd, Nat.reduceMul, Nat.reduceSub, Nat.reduceEqDiff, Nat.reduceLT, Nat.reduceLeDiff, Nat.reduceBEq, Nat.reduceBNe, reduceIte, Int.reduceEq, Int.reduceLT, Int.reduceLE, Int.reduceNe, Int.reduceToNat, hst, g60, c6]
        exact ⟨rfl, rfl, n, q, T, inl, rfl, by omega, hH1⟩
    · have c1 : decide (j < l.length) = false := by simpa using hj
      simp -implicitDefEqProofs only [sims.1, fx.1, keeps.1, tick_on, calleeK, extractV, oneV, faddrK, nonnil, b_shr, b_shl, fieldK, Nat.reduceAdd, Nat.reduceMul, Nat.reduceSub, Nat.reduceEqDiff, Nat.reduceLT, Nat.reduceLeDiff, Nat.reduceBEq, Nat.reduceBNe, reduceIte, Int.reduceEq, Int.reduceLT, Int.reduceLE, Int.reduceNe, Int.reduceToNat, ltNat, c1]
      exact ⟨rfl, rfl, n, q, T, inl, rfl, by omega, hH⟩
  · rintro e mm ⟨e5, e3, n, q, T, inl, e6, hn, hH⟩
    obtain ⟨fb, hfb⟩ : ∃ fb, fb = fndB h T.rows (0, 0) := ⟨_, rfl⟩
    have hbest := find_best hH.tb hH.inv (fun q hq => by
      obtain ⟨k, r⟩ := q
      obtain ⟨i, hi, _⟩ := mem_Lof hq
      have := hH.wf r (List.mem_of_getElem? hi)
      exact ⟨this.1.1, this.2⟩) hh
    rw [← hfb] at hbest
    have s9 := snd9 hH.tb (hH.bn.ok (by omega)) hh
    rw [← hfb] at s9
    have ph : partK true 11 (hC h) 0 = some (.agg (hC h)) := rfl
    simp -implicitDefEqProofs only [sims.1, fx.1, keeps.1, tick_on, calleeK, extractV, oneV, faddrK, nonnil, b_shr, b_shl, fieldK, Nat.reduceAdd, Nat.reduceMul, Nat.reduceSub, Nat.reduceEqDiff, Nat.reduceLT, Nat.reduceLeDiff, Nat.reduceBEq, Nat.reduceBNe, reduceIte, Int.reduceEq, Int.reduceLT, Int.reduceLE, Int.reduceNe, Int.reduceToNat, e5, e3, e6, hH.hd, ph]
    refine callD_allQ s9 en9 ?_
    rintro rr ⟨b, rfl⟩
    refine ⟨_, _, rfl, ?_⟩
    have hm9 : ∀ k x, mm[k]? = some x → (mm ++ [B.var 25 (hC h), B.var 65 (inC b)])[k]? = some x := fun k x hk => by
      rw [List.getElem?_append_left (List.getElem?_eq_some_iff.1 hk).1]; exact hk
    have hd9 := hm9 _ _ hH.hd
    have hrow9 : n ≠ 0 → (mm ++ [B.var 25 (hC h), B.var 65 (inC b)])[q]? = some (.row 32 25 (inl.map ruC)) := fun hn => hm9 _ _ (hH.row hn).1
    generalize mm ++ [B.var 25 (hC h), B.var 65 (inC b)] = m9 at hd9 hrow9 ⊢
    simp -implicitDefEqProofs only [sims.1, fx.1, keeps.1, tick_on, calleeK, extractV, oneV, faddrK, nonnil, b_shr, b_shl, fieldK, Nat.reduceAdd, Nat.reduceMul, Nat.reduceSub, Nat.reduceEqDiff, Nat.reduceLT, Nat.reduceLeDiff, Nat.reduceBEq, Nat.reduceBNe, reduceIte, Int.reduceEq, Int.reduceLT, Int.reduceLE, Int.reduceNe, Int.reduceToNat, e5, e3, e6]
    have lin : ∀ mm : Mem, lenV Try.prog mm 22 (in6 n q) = some (.int .i64 (n : Int)) := fun mm => by cases n <;> rfl
    have phv : partK true 11 (hC h) 0 = some (hv h) := rfl
    have hin6 : n ≠ 0 → in6 n q = .sl 25 q 0 n := fun hn => by
      cases n with
      | zero => exact absurd rfl hn
      | succ k => rfl
    rcases hbest with ⟨hz, hnone⟩ | ⟨hpos, ⟨r, hrL, hrank, hhit⟩, hall⟩
    · have d0 : decide (0 < fb.1) = false := by rw [hz]; rfl
      refine w_quiet ?_
      simp -implicitDefEqProofs only [sims.1, fx.1, keeps.1, tick_on, calleeK, extractV, oneV, faddrK, nonnil, b_shr, b_shl, fieldK, Nat.reduceAdd, Nat.reduceMul, Nat.reduceSub, Nat.reduceEqDiff, Nat.reduceLT, Nat.reduceLeDiff, Nat.reduceBEq, Nat.reduceBNe, reduceIte, Int.reduceEq, Int.reduceLT, Int.reduceLE, Int.reduceNe, Int.reduceToNat, d0, e5, e3, e6, lin]
      refine W_loopM (fun j : Nat => [(73, .int .i64 (n : Int)), (72, in6 n q), (3, .ptr 0 0), (12, .bool false), (6, in6 n q), (11, .int .i64 fb.1), (74, .int .i64 (j : Int))])
        (fun j mm' => j ≤ n ∧ mm'[0]? = some (.var 25 (hC h)) ∧ (n ≠ 0 → mm'[q]? = some (.row 32 25 (inl.map ruC)))) (fun j => n - j) 0 (Eq.trans (b := [(73, .int .i64 (n : Int)), (72, in6 n q), (3, e 3), (12, .bool false), (6, e 6), (11, .int .i64 fb.1), (74, .int .i64 0)]) (by kernel_rfl) (by rw [e3, e6]; rfl)) ⟨Nat.zero_le _, hd9, hrow9⟩ ?_
      rintro j mm' ⟨hj, hd', hrow'⟩
      rcases Nat.lt_or_ge j n with h1 | h1
      · have c1 : decide (j < n) = true := by simpa using h1
        have w1 := wrap_i64s j (by omega)
        have hjl : j < inl.length := by rw [hH.len]; exact h1
        have hn0 : n ≠ 0 := by omega
        have hin := hin6 hn0
        have hjr : inl[j]? = some inl[j] := List.getElem?_eq_getElem hjl
        have i1 : ∀ {kk : IntKind}, iaddrS 25 (.sl 25 q 0 n) (.int kk (j : Int)) = some (.ep 25 q j 0) := fun {_} => by rw [iaddrS_sl h1, Nat.zero_add]
        have l1 : loadK true 25 mm' (.ep 25 q j 0) = some (.agg (ruC inl[j])) := by
          rw [loadK_ep, hrow' hn0]
          simp only [Option.bind_some, if_true, List.getElem?_map, hjr, Option.map_some]
          rfl
        have hst : storeK 25 (mm' ++ [B.var 32 [.int .i64 0, .int .u64 0, .int .u64 0, .int .u64 0, .int .u64 0, .int .u64 0, .int .u64 0, .int .u64 0, .int .u64 0, .int .u64 0, .int .u64 0, .int .u64 0, .int .u64 0, .int .u64 0, .int .u64 0, .int .u64 0, .int .u64 0, .int .u64 0, .int .u64 0, .int .u64 0, .int .u64 0, .int .u64 0, .int .u64 0, .nils, .int .u64 0]]) (.ptr mm'.length 0) (.agg (ruC inl[j])) = some (mm' ++ [.var 32 (ruC inl[j])]) := st_ru _ rfl
        have hb' : (mm' ++ [B.var 32 (ruC inl[j])])[mm'.length]? = some (.var 32 (ruC inl[j])) := by simp
        have hk' : ∀ k x, mm'[k]? = some x → (mm' ++ [B.var 32 (ruC inl[j])])[k]? = some x := fun k x hk => by
          rw [List.getElem?_append_left (List.getElem?_eq_some_iff.1 hk).1]; exact hk
        have hd2 := hk' _ _ hd'
        have hr2 := fun hn => hk' _ _ (hrow' hn)
        have pM : partK true 22 (ruC inl[j]) 1 = some (mv inl[j].w) := rfl
        have pR : (ruC inl[j])[0]? = some (.int .i64 inl[j].rank) := rfl
        have a10 := ans10 inl[j].w h (hH.wf _ (List.getElem_mem hjl)).1.1 hh
        have n10 : nfs [mv inl[j].w, hv h] = true := nfs_mh _ _
        simp -implicitDefEqProofs only [sims.1, fx.1, keeps.1, tick_on, calleeK, extractV, oneV, faddrK, nonnil, b_shr, b_shl, fieldK, Nat.reduceAdd, Nat.reduceMul, Nat.reduceSub, Nat.reduceEqDiff, Nat.reduceLT, Nat.reduceLeDiff, Nat.reduceBEq, Nat.reduceBNe, reduceIte, Int.reduceEq, Int.reduceLT, Int.reduceLE, Int.reduceNe, Int.reduceToNat, ltNat, c1, hin, i1, l1, hst]
        refine w_quiet ?_
        simp -implicitDefEqProofs only [sims.1, fx.1, keeps.1, tick_on, calleeK, extractV, oneV, faddrK, nonnil, b_shr, b_shl, fieldK, Nat.reduceAdd, Nat.reduceMul, Nat.reduceSub, Nat.reduceEqDiff, Nat.reduceLT, Nat.reduceLeDiff, Nat.reduceBEq, Nat.reduceBNe, reduceIte, Int.reduceEq, Int.reduceLT, Int.reduceLE, Int.reduceNe, Int.reduceToNat, hb', hd2, pM, phv]
        refine callQ_ans a10 en10 n10 rfl ?_
        have hno : hits inl[j].w h = false := by
          cases e : hits inl[j].w h with
          | false => rfl
          | true => exact absurd ⟨inl[j], Lof_mem hjr, rfl, e⟩ (hnone ((j : Int) + 1, inl[j].rank))
        simp -implicitDefEqProofs only [sims.1, fx.1, keeps.1, tick_on, calleeK, extractV, oneV, faddrK, nonnil, b_shr, b_shl, fieldK, Nat.reduceAdd, Nat.reduceMul, Nat.reduceSub, Nat.reduceEqDiff, Nat.reduceLT, Nat.reduceLeDiff, Nat.reduceBEq, Nat.reduceBNe, reduceIte, Int.reduceEq, Int.reduceLT, Int.reduceLE, Int.reduceNe, Int.reduceToNat, hno, w1]
        exact ⟨j + 1, by rw [hin]; kernel_rfl, ⟨h1, hd2, hr2⟩, by omega⟩
      · have c1 : decide (j < n) = false := by simpa using h1
        simp -implicitDefEqProofs only [sims.1, fx.1, keeps.1, tick_on, calleeK, extractV, oneV, faddrK, nonnil, b_shr, b_shl, fieldK, Nat.reduceAdd, Nat.reduceMul, Nat.reduceSub, Nat.reduceEqDiff, Nat.reduceLT, Nat.reduceLeDiff, Nat.reduceBEq, Nat.reduceBNe, reduceIte, Int.reduceEq, Int.reduceLT, Int.reduceLE, Int.reduceNe, Int.reduceToNat, ltNat, c1]
        refine callD_ans ans11 en11 rfl rfl ?_
        simp -implicitDefEqProofs only [sims.1, fx.1, keeps.1, tick_on, calleeK, extractV, oneV, faddrK, nonnil, b_shr, b_shl, fieldK, Nat.reduceAdd, Nat.reduceMul, Nat.reduceSub, Nat.reduceEqDiff, Nat.reduceLT, Nat.reduceLeDiff, Nat.reduceBEq, Nat.reduceBNe, reduceIte, Int.reduceEq, Int.reduceLT, Int.reduceLE, Int.reduceNe, Int.reduceToNat]
        exact ans_ret rfl
    · obtain ⟨i, hi, hfi⟩ := mem_Lof hrL
      have d0 : decide (0 < fb.1) = true := by simpa using hpos
      have hil : i < inl.length := (List.getElem?_eq_some_iff.1 hi).1
      have hin' : i < n := by rw [← hH.len]; exact hil
      have hn0 : n ≠ 0 := by omega
      have d1 : decide (fb.1 < 1) = false := by simp; omega
      have d2 : decide ((n : Int) < fb.1) = false := by simp; omega
      have hwid : IntKind.i64.wrap (fb.1 - 1) = (i : Int) := by
        rw [hfi]
        simp [IntKind.wrap, IntKind.bits, IntKind.signed]
        omega
      have i2 : ∀ {kk : IntKind}, iaddrS 25 (.sl 25 q 0 n) (.int kk (i : Int)) = some (.ep 25 q i 0) := fun {_} => by rw [iaddrS_sl hin', Nat.zero_add]
      have l2 : loadK true 22 m9 (.ep 25 q i 1) = some (mv r.w) := by
        rw [loadK_ep, hrow9 hn0]
        simp only [Option.bind_some, if_true, List.getElem?_map, hi, Option.map_some]
        rfl
      have a10 := ans10 r.w h (hH.wf r (List.mem_of_getElem? hi)).1.1 hh
      have hin := hin6 hn0
      have lsl : ∀ mm : Mem, lenV Try.prog mm 22 (.sl 25 q 0 n) = some (.int .i64 (n : Int)) := fun _ => rfl
      refine w_quiet ?_
      simp -implicitDefEqProofs only [sims.1, fx.1, keeps.1, tick_on, calleeK, extractV, oneV, faddrK, nonnil, b_shr, b_shl, fieldK, Nat.reduceAdd, Nat.reduceMul, Nat.reduceSub, Nat.reduceEqDiff, Nat.reduceLT, Nat.reduceLeDiff, Nat.reduceBEq, Nat.reduceBNe, reduceIte, Int.reduceEq, Int.reduceLT, Int.reduceLE, Int.reduceNe, Int.reduceToNat, d0, d1, d2, e5, e3, e6, hin, lsl, hwid, i2, l2, hd9, phv]
      refine callQ_ans a10 en10 (nfs_mh _ _) rfl ?_
      simp -implicitDefEqProofs only [sims.1, fx.1, keeps.1, tick_on, calleeK, extractV, oneV, faddrK, nonnil, b_shr, b_shl, fieldK, Nat.reduceAdd, Nat.reduceMul, Nat.reduceSub, Nat.reduceEqDiff, Nat.reduceLT, Nat.reduceLeDiff, Nat.reduceBEq, Nat.reduceBNe, reduceIte, Int.reduceEq, Int.reduceLT, Int.reduceLE, Int.reduceNe, Int.reduceToNat, hhit, e5, e3, e6, hin, lsl]
      refine W_loopM (fun j : Nat => [(73, .int .i64 (n : Int)), (72, in6 n q), (3, .ptr 0 0), (12, .bool true), (6, in6 n q), (11, .int .i64 fb.1), (74, .int .i64 (j : Int))])
        (fun j mm' => j ≤ n ∧ mm'[0]? = some (.var 25 (hC h)) ∧ (n ≠ 0 → mm'[q]? = some (.row 32 25 (inl.map ruC)))) (fun j => n - j) 0 (Eq.trans (b := [(73, .int .i64 (n : Int)), (72, .sl 25 q 0 n), (3, e 3), (12, .bool true), (6, e 6), (11, .int .i64 fb.1), (74, .int .i64 0)]) (by kernel_rfl) (by rw [e3, e6, hin]; rfl)) ⟨Nat.zero_le _, hd9, hrow9⟩ ?_
      rintro j mm' ⟨hj, hd', hrow'⟩
      rcases Nat.lt_or_ge j n with h1 | h1
      · have c1 : decide (j < n) = true := by simpa using h1
        have w1 := wrap_i64s j (by omega)
        have hjl : j < inl.length := by rw [hH.len]; exact h1
        have hn0 : n ≠ 0 := by omega
        have hin := hin6 hn0
        have hjr : inl[j]? = some inl[j] := List.getElem?_eq_getElem hjl
        have i1 : ∀ {kk : IntKind}, iaddrS 25 (.sl 25 q 0 n) (.int kk (j : Int)) = some (.ep 25 q j 0) := fun {_} => by rw [iaddrS_sl h1, Nat.zero_add]
        have l1 : loadK true 25 mm' (.ep 25 q j 0) = some (.agg (ruC inl[j])) := by
          rw [loadK_ep, hrow' hn0]
          simp only [Option.bind_some, if_true, List.getElem?_map, hjr, Option.map_some]
          rfl
        have hst : storeK 25 (mm' ++ [B.var 32 [.int .i64 0, .int .u64 0, .int .u64 0, .int .u64 0, .int .u64 0, .int .u64 0, .int .u64 0, .int .u64 0, .int .u64 0, .int .u64 0, .int .u64 0, .int .u64 0, .int .u64 0, .int .u64 0, .int .u64 0, .int .u64 0, .int .u64 0, .int .u64 0, .int .u64 0, .int .u64 0, .int .u64 0, .int .u64 0, .int .u64 0, .nils, .int .u64 0]]) (.ptr mm'.length 0) (.agg (ruC inl[j])) = some (mm' ++ [.var 32 (ruC inl[j])]) := st_ru _ rfl
        have hb' : (mm' ++ [B.var 32 (ruC inl[j])])[mm'.length]? = some (.var 32 (ruC inl[j])) := by simp
        have hk' : ∀ k x, mm'[k]? = some x → (mm' ++ [B.var 32 (ruC inl[j])])[k]? = some x := fun k x hk => by
          rw [List.getElem?_append_left (List.getElem?_eq_some_iff.1 hk).1]; exact hk
        have hd2 := hk' _ _ hd'
        have hr2 := fun hn => hk' _ _ (hrow' hn)
        have pM : partK true 22 (ruC inl[j]) 1 = some (mv inl[j].w) := rfl
        have pR : (ruC inl[j])[0]? = some (.int .i64 inl[j].rank) := rfl
        have a10 := ans10 inl[j].w h (hH.wf _ (List.getElem_mem hjl)).1.1 hh
        have n10 : nfs [mv inl[j].w, hv h] = true := nfs_mh _ _
        simp -implicitDefEqProofs only [sims.1, fx.1, keeps.1, tick_on, calleeK, extractV, oneV, faddrK, nonnil, b_shr, b_shl, fieldK, Nat.reduceAdd, Nat.reduceMul, Nat.reduceSub, Nat.reduceEqDiff, Nat.reduceLT, Nat.reduceLeDiff, Nat.reduceBEq, Nat.reduceBNe, reduceIte, Int.reduceEq, Int.reduceLT, Int.reduceLE, Int.reduceNe, Int.reduceToNat, ltNat, c1, hin, i1, l1, hst]
        refine w_quiet ?_
        simp -implicitDefEqProofs only [sims.1, fx.1, keeps.1, tick_on, calleeK, extractV, oneV, faddrK, nonnil, b_shr, b_shl, fieldK, Nat.reduceAdd, Nat.reduceMul, Nat.reduceSub, Nat.reduceEqDiff, Nat.reduceLT, Nat.reduceLeDiff, Nat.reduceBEq, Nat.reduceBNe, reduceIte, Int.reduceEq, Int.reduceLT, Int.reduceLE, Int.reduceNe, Int.reduceToNat, hb', hd2, pM, phv]
        refine callQ_ans a10 en10 n10 rfl ?_
        cases hit : hits inl[j].w h
        · simp -implicitDefEqProofs only [sims.1, fx.1, keeps.1, tick_on, calleeK, extractV, oneV, faddrK, nonnil, b_shr, b_shl, fieldK, Nat.reduceAdd, Nat.reduceMul, Nat.reduceSub, Nat.reduceEqDiff, Nat.reduceLT, Nat.reduceLeDiff, Nat.reduceBEq, Nat.reduceBNe, reduceIte, Int.reduceEq, Int.reduceLT, Int.reduceLE, Int.reduceNe, Int.reduceToNat, hit, w1]
          exact ⟨j + 1, by rw [hin]; kernel_rfl, ⟨h1, hd2, hr2⟩, by omega⟩
        · have hlt := hall ((j : Int) + 1, inl[j].rank) ⟨inl[j], Lof_mem hjr, rfl, hit⟩
          simp only [ltIn, Bool.or_eq_false_iff, Bool.and_eq_false_iff, decide_eq_false_iff_not, hrank] at hlt
          have dg : decide (r.rank < inl[j].rank) = false := by simpa using hlt.1
          have i2 : ∀ {kk : IntKind}, iaddrS 25 (.sl 25 q 0 n) (.int kk (i : Int)) = some (.ep 25 q i 0) := fun {_} => by rw [iaddrS_sl hin', Nat.zero_add]
          have l2 : loadK false 1 (mm' ++ [B.var 32 (ruC inl[j])]) (.ep 25 q i 0) = some (.int .i64 r.rank) := by
            rw [loadK_ep, hr2 hn0]
            simp only [Option.bind_some, if_true, List.getElem?_map, hi, Option.map_some]
            rfl
          cases de : decide (inl[j].rank = r.rank)
          · simp -implicitDefEqProofs only [sims.1, fx.1, keeps.1, tick_on, calleeK, extractV, oneV, faddrK, nonnil, b_shr, b_shl, fieldK, Nat.reduceAdd, Nat.reduceMul, Nat.reduceSub, Nat.reduceEqDiff, Nat.reduceLT, Nat.reduceLeDiff, Nat.reduceBEq, Nat.reduceBNe, reduceIte, Int.reduceEq, Int.reduceLT, Int.reduceLE, Int.reduceNe, Int.reduceToNat, hit, hb', pR, hwid, i2, l2, dg, de, w1]
            exact ⟨j + 1, by rw [hin]; kernel_rfl, ⟨h1, hd2, hr2⟩, by omega⟩
          · have dl : decide (j < i) = false := by
              rw [decide_eq_true_eq] at de
              rcases hlt.2 with hh | hh
              · exact absurd de hh
              · simp; omega
            simp -implicitDefEqProofs only [sims.1, fx.1, keeps.1, tick_on, calleeK, extractV, oneV, faddrK, nonnil, b_shr, b_shl, fieldK, Nat.reduceAdd, Nat.reduceMul, Nat.reduceSub, Nat.reduceEqDiff, Nat.reduceLT, Nat.reduceLeDiff, Nat.reduceBEq, Nat.reduceBNe, reduceIte, Int.reduceEq, Int.reduceLT, Int.reduceLE, Int.reduceNe, Int.reduceToNat, hit, hb', pR, hwid, i2, l2, dg, de, ltNat, dl, w1]
            exact ⟨j + 1, by rw [hin]; kernel_rfl, ⟨h1, hd2, hr2⟩, by omega⟩
      · have c1 : decide (j < n) = false := by simpa using h1
        simp -implicitDefEqProofs only [sims.1, fx.1, keeps.1, tick_on, calleeK, extractV, oneV, faddrK, nonnil, b_shr, b_shl, fieldK, Nat.reduceAdd, Nat.reduceMul, Nat.reduceSub, Nat.reduceEqDiff, Nat.reduceLT, Nat.reduceLeDiff, Nat.reduceBEq, Nat.reduceBNe, reduceIte, Int.reduceEq, Int.reduceLT, Int.reduceLE, Int.reduceNe, Int.reduceToNat, ltNat, c1]
        refine callD_ans ans11 en11 rfl rfl ?_
        simp -implicitDefEqProofs only [sims.1, fx.1, keeps.1, tick_on, calleeK, extractV, oneV, faddrK, nonnil, b_shr, b_shl, fieldK, Nat.reduceAdd, Nat.reduceMul, Nat.reduceSub, Nat.reduceEqDiff, Nat.reduceLT, Nat.reduceLeDiff, Nat.reduceBEq, Nat.reduceBNe, reduceIte, Int.reduceEq, Int.reduceLT, Int.reduceLE, Int.reduceNe, Int.reduceToNat]
        exact ans_ret rfl
end Go.Proofs.Ytffhmbdpmpgddaa
