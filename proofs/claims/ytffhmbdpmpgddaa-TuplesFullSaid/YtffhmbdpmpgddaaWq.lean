/- A rule is dropped. No condition. -/
import Derived.Test.YtffhmbdpmpgddaaWp
namespace Go.Proofs.Ytffhmbdpmpgddaa
open Go Ab
set_option linter.unusedSimpArgs false
set_option linter.unusedVariables false
set_option maxRecDepth 20000

theorem st_ru {pre : Mem} {z : List V} (x : Ru) (hz : z.length = 25) : storeK 25 (pre ++ [.var 32 z]) (.ptr pre.length 0) (.agg (ruC x)) = some (pre ++ [.var 32 (ruC x)]) := by
  have h : (pre ++ [B.var 32 z])[pre.length]? = some (B.var 32 z) := by simp
  have h1 : (cellsOfV (V.agg (ruC x))).length = 25 ∧ cellsB (V.agg (ruC x)) = true := ⟨rfl, rfl⟩
  have h6 : 0 + (cellsOfV (V.agg (ruC x))).length ≤ z.length := by rw [hz]; exact Nat.le_refl 25
  unfold storeK
  rw [if_pos h1]
  simp only [h]
  rw [if_pos h6]
  have : splice z 0 (cellsOfV (V.agg (ruC x))) = ruC x := splice_all (by rw [hz]; rfl)
  rw [this]
  simp
section
variable {P : Program} {all : Array Oper} {r : List Oper} {env : Env} {m : Mem} {K : List (Nat × Info × Nat) → Env → Mem → Prop} {d : Option Nat} {ty : TypeId} {pos : String} {af : Array Edge} {k : Nat} {acc : List (Nat × Info × Nat)}
theorem e_makeFunc {f : FuncId} {a b : List Operand} : runE P all K k acc (⟨d, .makeFunc (.func f) a.toArray b.toArray, ty, pos, af, none⟩ :: r) env m = runE P all K (k + 1) acc r (put env d (.fn f (a.map (evO env)) (b.map (evO env)))) m := e_pure (o := some _) rfl rfl rfl fun _ => rfl
end
/-- A row's lists without a number. -/
def cutE (k : Nat → Nat) (id : Int) (es : List Ent) : List Ent := match fndE k es 0 with
  | some (j, y) => bif (y.ins.filter fun n => !decide (n.1 = id)).isEmpty then es.eraseIdx j else es.set j ⟨k, y.ins.filter fun n => !decide (n.1 = id), y.s⟩
  | none => es
theorem cutE_mem {k : Nat → Nat} {id : Int} {es : List Ent} {j : Nat} {y e : Ent} (hf : fndE k es 0 = some (j, y)) (h : e ∈ cutE k id es) : (e = ⟨k, y.ins.filter fun n => !decide (n.1 = id), y.s⟩ ∧ (y.ins.filter fun n => !decide (n.1 = id)) ≠ []) ∨ (∃ i, i ≠ j ∧ es[i]? = some e) := by
  unfold cutE at h
  rw [hf] at h
  simp only at h
  cases hc : (y.ins.filter fun n => !decide (n.1 = id)).isEmpty with
  | true =>
    rw [hc] at h
    simp only [cond_true] at h
    obtain ⟨i, hi⟩ := List.getElem?_of_mem h
    rw [List.getElem?_eraseIdx] at hi
    split at hi
    · exact .inr ⟨i, by omega, hi⟩
    · exact .inr ⟨i + 1, by omega, hi⟩
  | false =>
    rw [hc] at h
    simp only [cond_false] at h
    rcases mem_set h with rfl | hh
    · exact .inl ⟨rfl, fun e => by rw [e] at hc; simp at hc⟩
    · exact .inr hh
theorem cutE_s {k : Nat → Nat} {id : Int} {es : List Ent} {j : Nat} {y : Ent} (hf : fndE k es 0 = some (j, y)) : ((cutE k id es).map (·.s)).Sublist (es.map (·.s)) := by
  obtain ⟨_, hj, _⟩ := fndE_at hf
  rw [Nat.sub_zero] at hj
  unfold cutE
  rw [hf]
  simp only
  cases (y.ins.filter fun n => !decide (n.1 = id)).isEmpty with
  | true =>
    simp only [cond_true]
    exact (List.eraseIdx_sublist es j).map _
  | false =>
    simp only [cond_false]
    rw [List.map_set]
    have : (es.map (·.s)).set j y.s = es.map (·.s) := by
      apply List.ext_getElem?
      intro i
      rw [List.getElem?_set]
      by_cases hij : j = i
      · subst hij
        rw [if_pos rfl, List.getElem?_map, hj]
        simp [(List.getElem?_eq_some_iff.1 hj).1]
      · rw [if_neg hij]
    rw [this]
    exact List.Sublist.refl _
theorem TB.cut {m m' : Mem} {p : Nat} {T : Tbl} {i j : Nat} {x : Rw} {y : Ent} {k : Nat → Nat} {id : Int} (h : TB m p T) (hi : T.rows[i]? = some x) (hf : fndE k x.es 0 = some (j, y)) (hm : isMap m' x.mp ((cutE k id x.es).map enE))
    (hs : (y.ins.filter fun n => !decide (n.1 = id)) ≠ [] → m'[y.s]? = some (.row 65 2 ((y.ins.filter fun n => !decide (n.1 = id)).map inC))) (hk : ∀ n ∈ posT p T, n ≠ y.s → n ≠ x.mp → m'[n]? = m[n]?) :
    TB m' p { T with rows := T.rows.set i { x with es := cutE k id x.es } } := by
  obtain ⟨_, hj, _⟩ := fndE_at hf
  rw [Nat.sub_zero] at hj
  have hxm := List.mem_of_getElem? hi
  have hym := List.mem_of_getElem? hj
  have hx := h.tr x hxm
  have hdx := posR_nodup h hxm
  have hdx' := hdx
  simp only [posR, List.nodup_cons, List.mem_cons, not_or] at hdx'
  have hsub : ∀ n ∈ (cutE k id x.es).map (·.s), n ∈ x.es.map (·.s) := fun n hn => (cutE_s hf).subset hn
  have hys : ∀ e, e ∈ x.es → e.s ∈ posR x := fun e he => by simp only [posR, List.mem_cons, List.mem_map]; exact .inr (.inr ⟨e, he, rfl⟩)
  refine h.upd hi rfl ⟨?_, hm, fun e he => ?_, fun e he => ?_⟩ (fun n hn hnx => ?_) (fun n hn => ?_) ?_
  · show m'[x.r]? = some (.var 61 (rwC x))
    rw [hk _ (mem_posT hxm (by simp [posR])) (fun ee => hdx'.1.2 (List.mem_map.2 ⟨y, hym, ee.symm⟩)) hdx'.1.1]
    exact hx.r
  · rcases cutE_mem hf he with ⟨rfl, hne⟩ | ⟨i', hi', hi2⟩
    · exact hs hne
    · have hem := List.mem_of_getElem? hi2
      rw [hk _ (mem_posT hxm (hys e hem)) (fun ee => ?_) (fun ee => hdx'.2.1 (List.mem_map.2 ⟨e, hem, ee⟩))]
      · exact hx.s e hem
      · have g1 : (x.es.map (·.s))[i']? = some e.s := by rw [List.getElem?_map, hi2]; rfl
        have g2 : (x.es.map (·.s))[j]? = some e.s := by rw [List.getElem?_map, hj, ee]; rfl
        exact hi' ((List.getElem?_inj (List.getElem?_eq_some_iff.1 g1).1 hdx'.2.2).1 (g1.trans g2.symm))
  · rcases cutE_mem hf he with ⟨rfl, hne⟩ | ⟨i', _, hi2⟩
    · exact hne
    · exact hx.ne e (List.mem_of_getElem? hi2)
  · exact hk n hn (fun ee => hnx (by rw [ee]; exact hys y hym)) (fun ee => hnx (by rw [ee]; simp [posR]))
  · simp only [posR, List.mem_cons] at hn ⊢
    rcases hn with hn | hn | hn
    · exact .inl (.inl hn)
    · exact .inl (.inr (.inl hn))
    · exact .inl (.inr (.inr (hsub n hn)))
  · simp only [posR, List.nodup_cons, List.mem_cons, not_or]
    exact ⟨⟨hdx'.1.1, fun hh => hdx'.1.2 (hsub _ hh)⟩, fun hh => hdx'.2.1 (hsub _ hh), hdx'.2.2.sublist (cutE_s hf)⟩
/-- What holds behind the lists. -/
def CD (m : Mem) (p : Nat) (T : Tbl) (k i : Nat) (x : Rw) (es' : List Ent) (e : Env) (mm : Mem) : Prop :=
  e 0 = .ptr p 0 ∧ e 7 = .int .i64 (i : Int) ∧ e 8 = .ptr x.r 0 ∧ TB mm p { T with at_ := T.at_.eraseIdx k, rows := T.rows.set i { x with es := es' } } ∧ m.length + 2 ≤ mm.length ∧ ∀ n, n < m.length → n ∉ posT p T → mm[n]? = m[n]?
/-- A table without a rule. -/
def Dropped (T : Tbl) (id : Int) (r : Ru) (k i : Nat) (x : Rw) (T' : Tbl) : Prop := T'.at_ = T.at_.eraseIdx k ∧ T'.last = T.last ∧
  ((x.many = 1 ∧ T'.rows = T.rows.eraseIdx i) ∨ (x.many ≠ 1 ∧ ∃ G, (∀ e ∈ cutE r.w id x.es, (e.ins.headD (0, 0)).2 ≤ G) ∧ T'.rows = ssort ltR (T.rows.set i { x with g := G, many := x.many - 1, es := cutE r.w id x.es })))
set_option maxHeartbeats 8000000 in
theorem snd13 {m : Mem} {p : Nat} {T : Tbl} {id : Int} {r : Ru} {k i j : Nat} {x : Rw} {y : Ent} (h : TB m p T) (ok : TOk T) (hr : U64 22 r.w) (hat : fndA id T.at_ 0 = some (k, .agg (ruC r))) (hfR : fndR (ruM r) T.rows 0 = (i : Int)) (hx : T.rows[i]? = some x)
    (hfE : fndE r.w x.es 0 = some (j, y)) (hin : ∃ n ∈ y.ins, n.1 = id) :
    Snd Try.prog 13 [.ptr p 0, .int .i64 id] m fun q => ∃ m' T', q = .ret (.bool true) m' ∧ TB m' p T' ∧ Dropped T id r k i x T' ∧ Keep m m' (posT p T) ∧ (∀ k ∈ posT p T', k ∈ posT p T) := by
  refine Snd_of_W fol rfl rfl (by kernel_rfl) (by kernel_rfl) ?_
  have pe26 : ∀ (n o : Nat) (env : Env), binV Try.prog .eql 26 (.ptr n o) (evO env (.const (.pointer none))) = some (.bool false) := fun _ _ _ => rfl
  have tc : ∀ T, (tbC T)[0]? = some (rowsV T) ∧ (tbC T)[1]? = some (.mp T.a) ∧ (tbC T)[2]? = some (.int .i64 T.last) := fun _ => ⟨rfl, rfl, rfl⟩
  have nv : ∀ m : Mem, newV 3 m (.int .i64 id) = some (.ptr m.length 0, m ++ [.var 3 [.int .i64 id]]) := fun m => newV_one rfl
  have hlt := h.lt
  have h0 := h.app [B.var 3 [.int .i64 id]]
  have hI : (m ++ [B.var 3 [.int .i64 id]])[m.length]? = some (B.var 3 [.int .i64 id]) := by simp
  have hl0 : (m ++ [B.var 3 [.int .i64 id]]).length = m.length + 1 := by simp
  have hk0 : ∀ k, k < m.length → (m ++ [B.var 3 [.int .i64 id]])[k]? = m[k]? := fun k hk => List.getElem?_append_left hk
  simp -implicitDefEqProofs only [sims.1, fx.1, keeps.1, tick_on, calleeK, extractV, oneV, faddrK, nonnil, b_shr, b_shl, fieldK, Nat.reduceAdd, Nat.reduceMul, Nat.reduceSub, Nat.reduceEqDiff, Nat.reduceLT, Nat.reduceLeDiff, Nat.reduceBEq, Nat.reduceBNe, reduceIte, Int.reduceEq, Int.reduceLT, Int.reduceLE, Int.reduceNe, Int.reduceToNat, pe26, nv]
  generalize m ++ [B.var 3 [.int .i64 id]] = m0 at hI h0 hl0 hk0 ⊢
  generalize hbi : m.length = bi at hI hl0 hk0 hlt ⊢
  have hpl := hlt p (by simp [posT])
  have hal := hlt T.a (by simp [posT])
  simp -implicitDefEqProofs only [sims.1, fx.1, keeps.1, tick_on, calleeK, extractV, oneV, faddrK, nonnil, b_shr, b_shl, fieldK, Nat.reduceAdd, Nat.reduceMul, Nat.reduceSub, Nat.reduceEqDiff, Nat.reduceLT, Nat.reduceLeDiff, Nat.reduceBEq, Nat.reduceBNe, reduceIte, Int.reduceEq, Int.reduceLT, Int.reduceLE, Int.reduceNe, Int.reduceToNat, pe26]
  have zV : ∃ z, zeroV Try.prog 32 = some z := ⟨_, rfl⟩
  obtain ⟨z, hz⟩ := zV
  have hlk := look_at (id := id) h0.ta hz
  rw [hat] at hlk
  refine w_noisy ?_
  have hst : storeK 25 (m0 ++ [B.var 32 [.int .i64 0, .int .u64 0, .int .u64 0, .int .u64 0, .int .u64 0, .int .u64 0, .int .u64 0, .int .u64 0, .int .u64 0, .int .u64 0, .int .u64 0, .int .u64 0, .int .u64 0, .int .u64 0, .int .u64 0, .int .u64 0, .int .u64 0, .int .u64 0, .int .u64 0, .int .u64 0, .int .u64 0, .int .u64 0, .int .u64 0, .nils, .int .u64 0]]) (.ptr m0.length 0) (.agg (ruC r)) = some (m0 ++ [.var 32 (ruC r)]) := st_ru r rfl
  simp -implicitDefEqProofs only [sims.1, fx.1, keeps.1, tick_on, calleeK, extractV, oneV, faddrK, nonnil, b_shr, b_shl, fieldK, Nat.reduceAdd, Nat.reduceMul, Nat.reduceSub, Nat.reduceEqDiff, Nat.reduceLT, Nat.reduceLeDiff, Nat.reduceBEq, Nat.reduceBNe, reduceIte, Int.reduceEq, Int.reduceLT, Int.reduceLE, Int.reduceNe, Int.reduceToNat, h0.tp, (tc _).2.1, hI, hlk]
  iterate 8
    first
    | (refine orderP_of (accB_lt (by intro n hn; first | (simp [nms, mnm] at hn; done) | (simp [nms, mnm] at hn ⊢; omega) | (simp [nms, mnm] at hn; omega)) (by kernel_rfl)) ?_
       simp -implicitDefEqProofs only [sims.1, fx.1, keeps.1, tick_on, calleeK, extractV, oneV, faddrK, nonnil, b_shr, b_shl, fieldK, Nat.reduceAdd, Nat.reduceMul, Nat.reduceSub, Nat.reduceEqDiff, Nat.reduceLT, Nat.reduceLeDiff, Nat.reduceBEq, Nat.reduceBNe, reduceIte, Int.reduceEq, Int.reduceLT, Int.reduceLE, Int.reduceNe, Int.reduceToNat, h0.tp, (tc _).2.1, hI, hlk, hst])
    | skip
  have h1 := h0.app [B.var 32 (ruC r)]
  have hR1 : (m0 ++ [B.var 32 (ruC r)])[m0.length]? = some (B.var 32 (ruC r)) := by simp
  have hI1 : (m0 ++ [B.var 32 (ruC r)])[bi]? = some (B.var 3 [.int .i64 id]) := by rw [List.getElem?_append_left (by omega)]; exact hI
  have hl1 : (m0 ++ [B.var 32 (ruC r)]).length = bi + 2 := by simp; omega
  have hk1 : ∀ k, k < bi → (m0 ++ [B.var 32 (ruC r)])[k]? = m[k]? := fun k hk => by rw [List.getElem?_append_left (by omega)]; exact hk0 k hk
  rw [hl0] at hR1 ⊢
  generalize m0 ++ [B.var 32 (ruC r)] = m1 at hI1 h1 hl1 hk1 hR1 ⊢
  have hbn : bi ∉ posT p T := fun e => Nat.lt_irrefl _ (hlt _ e)
  have hbn1 : bi + 1 ∉ posT p T := fun e => by have := hlt _ e; omega
  obtain ⟨b2, hdel, h2m⟩ := del_at h1.ta hat
  refine w_noisy ?_
  simp -implicitDefEqProofs only [sims.1, fx.1, keeps.1, tick_on, calleeK, extractV, oneV, faddrK, nonnil, b_shr, b_shl, fieldK, Nat.reduceAdd, Nat.reduceMul, Nat.reduceSub, Nat.reduceEqDiff, Nat.reduceLT, Nat.reduceLeDiff, Nat.reduceBEq, Nat.reduceBNe, reduceIte, Int.reduceEq, Int.reduceLT, Int.reduceLE, Int.reduceNe, Int.reduceToNat, h1.tp, (tc _).2.1, hI1, hdel]
  iterate 6
    first
    | (refine orderP_of (accB_lt (by intro n hn; first | (simp [nms, mnm] at hn; done) | (simp [nms, mnm] at hn ⊢; omega) | (simp [nms, mnm] at hn; omega)) (by kernel_rfl)) ?_
       simp -implicitDefEqProofs only [sims.1, fx.1, keeps.1, tick_on, calleeK, extractV, oneV, faddrK, nonnil, b_shr, b_shl, fieldK, Nat.reduceAdd, Nat.reduceMul, Nat.reduceSub, Nat.reduceEqDiff, Nat.reduceLT, Nat.reduceLeDiff, Nat.reduceBEq, Nat.reduceBNe, reduceIte, Int.reduceEq, Int.reduceLT, Int.reduceLE, Int.reduceNe, Int.reduceToNat, h1.tp, (tc _).2.1, hI1, hdel])
    | skip
  have h2 := h1.at (l := T.at_.eraseIdx k) h2m
  have hab : T.a ≠ bi ∧ T.a ≠ bi + 1 := ⟨by omega, by omega⟩
  have hR2 : (m1.set T.a b2)[bi + 1]? = some (B.var 32 (ruC r)) := by rw [List.getElem?_set_ne hab.2]; exact hR1
  have hI2 : (m1.set T.a b2)[bi]? = some (B.var 3 [.int .i64 id]) := by rw [List.getElem?_set_ne hab.1]; exact hI1
  have hl2 : (m1.set T.a b2).length = bi + 2 := by rw [List.length_set]; exact hl1
  have hk2 : ∀ k, k < bi → k ∉ posT p T → (m1.set T.a b2)[k]? = m[k]? := fun k hk hn => by
    rw [List.getElem?_set_ne (fun e => hn (by rw [← e]; simp [posT]))]
    exact hk1 k hk
  try simp only at h2
  generalize m1.set T.a b2 = m2 at hI2 h2 hl2 hk2 hR2 ⊢
  have s19 := snd19d h2 hR2 ok.masks hr (by have := ok.num; simp only; omega)
  have rvT : rowsV { rows := T.rows, at_ := T.at_.eraseIdx k, last := T.last, a := T.a, q := T.q, nil := T.nil } = rowsV T := rfl
  simp only [rvT, hfR] at s19
  simp -implicitDefEqProofs only [sims.1, fx.1, keeps.1, tick_on, calleeK, extractV, oneV, faddrK, nonnil, b_shr, b_shl, fieldK, Nat.reduceAdd, Nat.reduceMul, Nat.reduceSub, Nat.reduceEqDiff, Nat.reduceLT, Nat.reduceLeDiff, Nat.reduceBEq, Nat.reduceBNe, reduceIte, Int.reduceEq, Int.reduceLT, Int.reduceLE, Int.reduceNe, Int.reduceToNat, h2.tp, (tc _).1, rvT]
  refine callD_all s19 en19 ?_
  have hxm := List.mem_of_getElem? hx
  have hne := List.ne_nil_of_mem hxm
  have hnn := h.nn hne
  have hil := (List.getElem?_eq_some_iff.1 hx).1
  have rv : rowsV T = .sl 1 T.q 0 T.rows.length := rowsV_nn hnn
  have i1 : ∀ {kk : IntKind}, iaddrS 1 (.sl 1 T.q 0 T.rows.length) (.int kk (i : Int)) = some (.ep 1 T.q i 0) := fun {_} => by rw [iaddrS_sl hil, Nat.zero_add]
  have l1 : loadK false 1 m2 (.ep 1 T.q i 0) = some (.ptr x.r 0) := by
    rw [loadK_ep, h2.tq hnn]
    have : (T.rows.map fun x => [V.ptr x.r 0])[i]? = some [V.ptr x.r 0] := by rw [List.getElem?_map, hx]; rfl
    simp only [Option.bind_some, if_true, this]
    rfl
  simp -implicitDefEqProofs only [sims.1, fx.1, keeps.1, tick_on, calleeK, extractV, oneV, faddrK, nonnil, b_shr, b_shl, fieldK, Nat.reduceAdd, Nat.reduceMul, Nat.reduceSub, Nat.reduceEqDiff, Nat.reduceLT, Nat.reduceLeDiff, Nat.reduceBEq, Nat.reduceBNe, reduceIte, Int.reduceEq, Int.reduceLT, Int.reduceLE, Int.reduceNe, Int.reduceToNat, h2.tp, (tc _).1, rvT, rv, i1, l1]
  have hB := h2.tr x hxm
  have w11 : ∀ y, (rwC y)[11]? = some (.mp y.mp) := fun _ => rfl
  have pV : partK true 11 (ruC r) 1 = some (.agg (hC r.w)) := rfl
  have hkw : U64 11 r.w := fun i hi => hr i (by omega)
  have hkey := ok.keys x hxm
  have hlE := look_es hB.mp hkw hkey
  rw [hfE] at hlE
  obtain ⟨_, hjy, hjk⟩ := fndE_at hfE
  rw [Nat.sub_zero] at hjy
  have hym := List.mem_of_getElem? hjy
  have hys : y.s ∈ posR x := by simp only [posR, List.mem_cons, List.mem_map]; exact .inr (.inr ⟨y, hym, rfl⟩)
  have hxr : x.r ∈ posR x := by simp [posR]
  have hxp : x.mp ∈ posR x := by simp [posR]
  have hyl := hlt _ (mem_posT hxm hys)
  have hxrl := hlt _ (mem_posT hxm hxr)
  have hxpl := hlt _ (mem_posT hxm hxp)
  have hysr := hB.s y hym
  obtain ⟨l', hl'⟩ : ∃ l', l' = y.ins.filter fun n => !decide (n.1 = id) := ⟨_, rfl⟩
  have s29 := snd29v (l := y.ins) (id := id) (by have := ok.nums x hxm y hym; omega) hin
  rw [← hl'] at s29
  have vEy : vE (some (j, y)) = .sl 2 y.s 0 y.ins.length := rfl
  refine w_noisy ?_
  simp -implicitDefEqProofs only [sims.1, fx.1, keeps.1, tick_on, calleeK, extractV, oneV, faddrK, nonnil, b_shr, b_shl, fieldK, Nat.reduceAdd, Nat.reduceMul, Nat.reduceSub, Nat.reduceEqDiff, Nat.reduceLT, Nat.reduceLeDiff, Nat.reduceBEq, Nat.reduceBNe, reduceIte, Int.reduceEq, Int.reduceLT, Int.reduceLE, Int.reduceNe, Int.reduceToNat, hB.r, w11, hR2, pV, hlE, vEy, e_makeFunc]
  iterate 4
    first
    | (refine orderP_of (accB_lt (by intro n hn; first | (simp [nms, mnm] at hn; done) | (simp [nms, mnm] at hn ⊢; omega) | (simp [nms, mnm] at hn; omega)) (by kernel_rfl)) ?_
       simp -implicitDefEqProofs only [sims.1, fx.1, keeps.1, tick_on, calleeK, extractV, oneV, faddrK, nonnil, b_shr, b_shl, fieldK, Nat.reduceAdd, Nat.reduceMul, Nat.reduceSub, Nat.reduceEqDiff, Nat.reduceLT, Nat.reduceLeDiff, Nat.reduceBEq, Nat.reduceBNe, reduceIte, Int.reduceEq, Int.reduceLT, Int.reduceLE, Int.reduceNe, Int.reduceToNat, hB.r, w11, hR2, pV, hlE, vEy, e_makeFunc])
    | skip
  have hysb : y.s ≠ bi := by omega
  have hbq : Nat.beq y.s bi = false := by
    cases e : Nat.beq y.s bi with
    | false => rfl
    | true => exact absurd (Nat.eq_of_beq_eq_true e) hysb
  refine callE_two (vs := [.sl 2 y.s 0 y.ins.length, .fn 30 [] [.ptr bi 0]]) s29 en29 hysr hI2 (nfB_ins _) rfl (nfB_ins _) rfl hysb rfl (by simp [inDs, inD]) (by simp [rens, ren, idx, hbq]) rfl (v2 := .sl 2 y.s 0 l'.length) (by rfl) ?_
  simp -implicitDefEqProofs only [sims.1, fx.1, keeps.1, tick_on, calleeK, extractV, oneV, faddrK, nonnil, b_shr, b_shl, fieldK, Nat.reduceAdd, Nat.reduceMul, Nat.reduceSub, Nat.reduceEqDiff, Nat.reduceLT, Nat.reduceLeDiff, Nat.reduceBEq, Nat.reduceBNe, reduceIte, Int.reduceEq, Int.reduceLT, Int.reduceLE, Int.reduceNe, Int.reduceToNat]
  iterate 4
    first
    | (refine orderP_of (accB_lt (by intro n hn; first | (simp [nms, mnm] at hn; done) | (simp [nms, mnm] at hn ⊢; omega) | (simp [nms, mnm] at hn; omega)) (by kernel_rfl)) ?_
       simp -implicitDefEqProofs only [sims.1, fx.1, keeps.1, tick_on, calleeK, extractV, oneV, faddrK, nonnil, b_shr, b_shl, fieldK, Nat.reduceAdd, Nat.reduceMul, Nat.reduceSub, Nat.reduceEqDiff, Nat.reduceLT, Nat.reduceLeDiff, Nat.reduceBEq, Nat.reduceBNe, reduceIte, Int.reduceEq, Int.reduceLT, Int.reduceLE, Int.reduceNe, Int.reduceToNat])
    | skip
  have hysl : y.s < m2.length := by omega
  have hy3 : ((m2.set y.s (.row 65 2 (l'.map inC))).set bi (.var 3 [.int .i64 id]))[y.s]? = some (.row 65 2 (l'.map inC)) := by
    rw [List.getElem?_set_ne (Ne.symm hysb)]
    exact List.getElem?_set_self hysl
  have hk3 : ∀ n, n ≠ y.s → n ≠ bi → ((m2.set y.s (.row 65 2 (l'.map inC))).set bi (.var 3 [.int .i64 id]))[n]? = m2[n]? := fun n h1 h2 => by
    rw [List.getElem?_set_ne (Ne.symm h2), List.getElem?_set_ne (Ne.symm h1)]
  have hl3 : ((m2.set y.s (.row 65 2 (l'.map inC))).set bi (.var 3 [.int .i64 id])).length = bi + 2 := by rw [List.length_set, List.length_set]; exact hl2
  generalize (m2.set y.s (.row 65 2 (l'.map inC))).set bi (.var 3 [.int .i64 id]) = m3 at hy3 hk3 hl3 ⊢
  have hdx := posR_nodup h hxm
  have hdx' := hdx
  simp only [posR, List.nodup_cons, List.mem_cons, not_or] at hdx'
  have hyx : x.r ≠ y.s := fun ee => hdx'.1.2 (List.mem_map.2 ⟨y, hym, ee.symm⟩)
  have hyp : x.mp ≠ y.s := fun ee => hdx'.2.1 (List.mem_map.2 ⟨y, hym, ee.symm⟩)
  have hR3 : m3[bi + 1]? = some (.var 32 (ruC r)) := by rw [hk3 _ (by omega) (by omega)]; exact hR2
  have hr3 : m3[x.r]? = some (.var 61 (rwC x)) := by rw [hk3 _ hyx (by omega)]; exact hB.r
  have hm3 : isMap m3 x.mp (x.es.map enE) := hB.mp.of (hk3 _ hyp (by omega))
  obtain ⟨b4, hput, hm4⟩ := put_old (.sl 2 y.s 0 l'.length) hm3 hkw hkey hfE
  have hset : (x.es.map enE).set j (.agg (hC r.w), .sl 2 y.s 0 l'.length) = (x.es.set j ⟨r.w, l', y.s⟩).map enE := by rw [List.map_set]; rfl
  rw [hset] at hm4
  refine w_noisy ?_
  simp -implicitDefEqProofs only [sims.1, fx.1, keeps.1, tick_on, calleeK, extractV, oneV, faddrK, nonnil, b_shr, b_shl, fieldK, Nat.reduceAdd, Nat.reduceMul, Nat.reduceSub, Nat.reduceEqDiff, Nat.reduceLT, Nat.reduceLeDiff, Nat.reduceBEq, Nat.reduceBNe, reduceIte, Int.reduceEq, Int.reduceLT, Int.reduceLE, Int.reduceNe, Int.reduceToNat, hr3, w11, hR3, pV, hput]
  iterate 6
    first
    | (refine orderP_of (accB_lt (by intro n hn; first | (simp [nms, mnm] at hn; done) | (simp [nms, mnm] at hn ⊢; omega) | (simp [nms, mnm] at hn; omega)) (by kernel_rfl)) ?_
       simp -implicitDefEqProofs only [sims.1, fx.1, keeps.1, tick_on, calleeK, extractV, oneV, faddrK, nonnil, b_shr, b_shl, fieldK, Nat.reduceAdd, Nat.reduceMul, Nat.reduceSub, Nat.reduceEqDiff, Nat.reduceLT, Nat.reduceLeDiff, Nat.reduceBEq, Nat.reduceBNe, reduceIte, Int.reduceEq, Int.reduceLT, Int.reduceLE, Int.reduceNe, Int.reduceToNat, hr3, w11, hR3, pV, hput])
    | skip
  have hl4 : (m3.set x.mp b4).length = bi + 2 := by rw [List.length_set]; exact hl3
  have hk4 : ∀ n, n ≠ x.mp → (m3.set x.mp b4)[n]? = m3[n]? := fun n hn => List.getElem?_set_ne (Ne.symm hn)
  generalize m3.set x.mp b4 = m4 at hm4 hl4 hk4 ⊢
  have lv63 : ∀ (m : Mem) (n : Nat), lenV Try.prog m 63 (.sl 2 y.s 0 n) = some (.int .i64 (n : Int)) := fun _ _ => rfl
  simp -implicitDefEqProofs only [sims.1, fx.1, keeps.1, tick_on, calleeK, extractV, oneV, faddrK, nonnil, b_shr, b_shl, fieldK, Nat.reduceAdd, Nat.reduceMul, Nat.reduceSub, Nat.reduceEqDiff, Nat.reduceLT, Nat.reduceLeDiff, Nat.reduceBEq, Nat.reduceBNe, reduceIte, Int.reduceEq, Int.reduceLT, Int.reduceLE, Int.reduceNe, Int.reduceToNat, lv63]
  refine cutIf (CD m p T k i x (cutE r.w id x.es)) ?_ (fun t => ?_) (fun t => ?_)
  rotate_left
  · have hl0 : l' = [] := by
      cases l' with
      | nil => rfl
      | cons a b => simp at t; omega
    have hcut : cutE r.w id x.es = x.es.eraseIdx j := by
      unfold cutE
      rw [hfE]
      simp only
      rw [← hl', hl0]
      rfl
    have hf4 := fndE_set (e' := ⟨r.w, l', y.s⟩) hfE (eqH_refl _)
    rw [Nat.sub_zero] at hf4
    have hkey4 : ∀ e ∈ x.es.set j ⟨r.w, l', y.s⟩, U64 11 e.key := fun e he => by
      rcases List.mem_or_eq_of_mem_set he with he | rfl
      · exact hkey e he
      · exact hkw
    obtain ⟨b5, hdel5, hm5⟩ := del_es hm4 hkw hkey4 hf4
    rw [List.eraseIdx_set_eq, ← hcut] at hm5
    have hr4 : m4[x.r]? = some (.var 61 (rwC x)) := by rw [hk4 _ hdx'.1.1]; exact hr3
    have hR4 : m4[bi + 1]? = some (.var 32 (ruC r)) := by rw [hk4 _ (by omega)]; exact hR3
    refine w_noisy ?_
    simp -implicitDefEqProofs only [sims.1, fx.1, keeps.1, tick_on, calleeK, extractV, oneV, faddrK, nonnil, b_shr, b_shl, fieldK, Nat.reduceAdd, Nat.reduceMul, Nat.reduceSub, Nat.reduceEqDiff, Nat.reduceLT, Nat.reduceLeDiff, Nat.reduceBEq, Nat.reduceBNe, reduceIte, Int.reduceEq, Int.reduceLT, Int.reduceLE, Int.reduceNe, Int.reduceToNat, hr4, w11, hR4, pV, hdel5]
    iterate 6
      first
      | (refine orderP_of (accB_lt (by intro n hn; first | (simp [nms, mnm] at hn; done) | (simp [nms, mnm] at hn ⊢; omega) | (simp [nms, mnm] at hn; omega)) (by kernel_rfl)) ?_
         simp -implicitDefEqProofs only [sims.1, fx.1, keeps.1, tick_on, calleeK, extractV, oneV, faddrK, nonnil, b_shr, b_shl, fieldK, Nat.reduceAdd, Nat.reduceMul, Nat.reduceSub, Nat.reduceEqDiff, Nat.reduceLT, Nat.reduceLeDiff, Nat.reduceBEq, Nat.reduceBNe, reduceIte, Int.reduceEq, Int.reduceLT, Int.reduceLE, Int.reduceNe, Int.reduceToNat, hr4, w11, hR4, pV, hdel5])
      | skip
    refine ⟨rfl, rfl, rfl, h2.cut hx hfE hm5 (fun hh => absurd (hl'.symm.trans hl0) hh) (fun n hn h1 h2 => ?_), by rw [List.length_set]; omega, fun n hn hn2 => ?_⟩
    · have hnl := hlt n hn
      rw [List.getElem?_set_ne (Ne.symm h2), hk4 _ h2, hk3 _ h1 (by omega)]
    · rw [hbi] at hn
      have n1 : n ≠ y.s := fun ee => hn2 (by rw [ee]; exact mem_posT hxm hys)
      have n2 : n ≠ x.mp := fun ee => hn2 (by rw [ee]; exact mem_posT hxm hxp)
      rw [List.getElem?_set_ne (Ne.symm n2), hk4 _ n2, hk3 _ n1 (by omega)]
      exact hk2 n hn hn2
  · have hl0 : l' ≠ [] := fun e => by rw [e] at t; simp at t
    have hcut : cutE r.w id x.es = x.es.set j ⟨r.w, l', y.s⟩ := by
      unfold cutE
      rw [hfE]
      simp only
      rw [← hl']
      cases l' with
      | nil => exact absurd rfl hl0
      | cons a b => rfl
    rw [← hcut] at hm4
    simp -implicitDefEqProofs only [sims.1, fx.1, keeps.1, tick_on, calleeK, extractV, oneV, faddrK, nonnil, b_shr, b_shl, fieldK, Nat.reduceAdd, Nat.reduceMul, Nat.reduceSub, Nat.reduceEqDiff, Nat.reduceLT, Nat.reduceLeDiff, Nat.reduceBEq, Nat.reduceBNe, reduceIte, Int.reduceEq, Int.reduceLT, Int.reduceLE, Int.reduceNe, Int.reduceToNat]
    refine ⟨rfl, rfl, rfl, h2.cut hx hfE hm4 (fun hh => ?_) (fun n hn h1 h2 => ?_), by omega, fun n hn hn2 => ?_⟩
    · rw [← hl', hk4 _ (Ne.symm hyp)]
      exact hy3
    · have hnl := hlt n hn
      rw [hk4 _ h2, hk3 _ h1 (by omega)]
    · rw [hbi] at hn
      have n1 : n ≠ y.s := fun ee => hn2 (by rw [ee]; exact mem_posT hxm hys)
      have n2 : n ≠ x.mp := fun ee => hn2 (by rw [ee]; exact mem_posT hxm hxp)
      rw [hk4 _ n2, hk3 _ n1 (by omega)]
      exact hk2 n hn hn2
  · rintro e mm ⟨e0, e7, e8, hT, hlm, hkeep⟩
    have hTr : (T.rows.set i { x with es := cutE r.w id x.es })[i]? = some { x with es := cutE r.w id x.es } := List.getElem?_set_self hil
    have hTm : { x with es := cutE r.w id x.es } ∈ T.rows.set i { x with es := cutE r.w id x.es } := List.mem_of_getElem? hTr
    have hrm : mm[x.r]? = some (.var 61 (rwC x)) := (hT.tr _ hTm).r
    have w13 : ∀ y, (rwC y)[13]? = some (.int .i64 y.many) := fun _ => rfl
    have wl : ∀ y, (rwC y).length = 14 := fun _ => rfl
    have ws13 : ∀ y (G : Int), (rwC y).set 13 (.int .i64 G) = rwC { y with many := G } := fun _ _ => rfl
    have hmany := ok.many x hxm
    have hwm : IntKind.i64.wrap (x.many - 1) = x.many - 1 := by
      simp [IntKind.wrap, IntKind.bits, IntKind.signed]
      omega
    simp -implicitDefEqProofs only [sims.1, fx.1, keeps.1, tick_on, calleeK, extractV, oneV, faddrK, nonnil, b_shr, b_shl, fieldK, Nat.reduceAdd, Nat.reduceMul, Nat.reduceSub, Nat.reduceEqDiff, Nat.reduceLT, Nat.reduceLeDiff, Nat.reduceBEq, Nat.reduceBNe, reduceIte, Int.reduceEq, Int.reduceLT, Int.reduceLE, Int.reduceNe, Int.reduceToNat, e0, e7, e8, hrm, w13, wl, ws13, hwm]
    obtain ⟨x2, hx2⟩ : ∃ x2 : Rw, x2 = { x with es := cutE r.w id x.es, many := x.many - 1 } := ⟨_, rfl⟩
    have hw2 : rwC { x with many := x.many - 1 } = rwC x2 := by rw [hx2]; rfl
    have hxrm : x.r < mm.length := (List.getElem?_eq_some_iff.1 hrm).1
    have hx2r : x2.r = x.r := by rw [hx2]
    have hx2p : x2.mp = x.mp := by rw [hx2]
    have hx2e : x2.es = cutE r.w id x.es := by rw [hx2]
    have hpR : posR x2 = posR { x with es := cutE r.w id x.es } := by rw [hx2]; rfl
    have hdT := posR_nodup hT hTm
    have hT5 : TB (mm.set x.r (.var 61 (rwC x2))) p { T with at_ := T.at_.eraseIdx k, rows := T.rows.set i x2 } := by
      have hdT' := hdT
      simp only [posR, List.nodup_cons, List.mem_cons, not_or] at hdT'
      have hz := hT.tr _ hTm
      have := hT.upd (m' := mm.set x.r (.var 61 (rwC x2))) (x' := x2) hTr hx2r ⟨by rw [hx2r]; exact List.getElem?_set_self hxrm, by rw [hx2p, hx2e]; exact hz.mp.of (List.getElem?_set_ne hdT'.1.1), fun e he => by
          rw [hx2e] at he
          rw [List.getElem?_set_ne (fun ee => hdT'.1.2 (List.mem_map.2 ⟨e, he, ee.symm⟩))]
          exact hz.s e he, fun e he => hz.ne e (by rw [hx2e] at he; exact he)⟩
        (fun n hn hnx => List.getElem?_set_ne fun ee => hnx (by rw [← ee]; simp [posR])) (fun n hn => .inl (by rw [hpR] at hn; exact hn)) (by rw [hpR]; exact hdT)
      simp only [List.set_set] at this
      exact this
    have hl5 : (mm.set x.r (.var 61 (rwC x2))).length = mm.length := by rw [List.length_set]
    have hr5 : (mm.set x.r (.var 61 (rwC x2)))[x.r]? = some (.var 61 (rwC x2)) := List.getElem?_set_self hxrm
    have hk5 : ∀ n, n < bi → n ∉ posT p T → (mm.set x.r (.var 61 (rwC x2)))[n]? = m[n]? := fun n hn hn2 => by
      rw [List.getElem?_set_ne (fun ee => hn2 (by rw [← ee]; exact mem_posT hxm hxr))]
      exact hkeep n (by rw [hbi]; exact hn) hn2
    rw [hw2]
    generalize mm.set x.r (.var 61 (rwC x2)) = m5 at hT5 hl5 hr5 hk5 ⊢
    have h13 : (rwC x2)[13]? = some (.int .i64 (x.many - 1)) := by rw [w13, hx2]
    have hsubP : ∀ n ∈ posT p { T with at_ := T.at_.eraseIdx k, rows := T.rows.set i x2 }, n ∈ posT p T := fun n hn => by
      simp only [posT, List.mem_cons, List.mem_append, List.mem_flatMap] at hn ⊢
      rcases hn with hn | hn | hn | ⟨z, hz, hnz⟩
      · exact .inl hn
      · exact .inr (.inl hn)
      · exact .inr (.inr (.inl hn))
      · refine .inr (.inr (.inr ?_))
        rcases List.mem_or_eq_of_mem_set hz with hz | rfl
        · exact ⟨z, hz, hnz⟩
        · refine ⟨x, hxm, ?_⟩
          rw [hpR] at hnz
          simp only [posR, List.mem_cons] at hnz ⊢
          rcases hnz with hn | hn | hn
          · exact .inl hn
          · exact .inr (.inl hn)
          · exact .inr (.inr ((cutE_s hfE).subset hn))
    simp -implicitDefEqProofs only [sims.1, fx.1, keeps.1, tick_on, calleeK, extractV, oneV, faddrK, nonnil, b_shr, b_shl, fieldK, Nat.reduceAdd, Nat.reduceMul, Nat.reduceSub, Nat.reduceEqDiff, Nat.reduceLT, Nat.reduceLeDiff, Nat.reduceBEq, Nat.reduceBNe, reduceIte, Int.reduceEq, Int.reduceLT, Int.reduceLE, Int.reduceNe, Int.reduceToNat, e0, e7, e8, hr5, h13]
    rcases Decidable.em (x.many - 1 = 0) with hz | hz
    · have c0 : decide (x.many - 1 = 0) = true := decide_eq_true hz
      have rv5 : rowsV { T with at_ := T.at_.eraseIdx k, rows := T.rows.set i x2 } = .sl 1 T.q 0 T.rows.length := by
        rw [rowsV_nn (T := { T with at_ := T.at_.eraseIdx k, rows := T.rows.set i x2 }) hnn]
        simp only [List.length_set]
      have hq5 := hT5.tq hnn
      simp only at hq5 rv5
      have hrr : (T.rows.set i x2).map (fun x => [V.ptr x.r 0]) = ((T.rows.map (·.r)).map fun a => [V.ptr a 0]) := by
        rw [List.map_set, List.map_map]
        apply List.ext_getElem?
        intro n
        rw [List.getElem?_set]
        by_cases hin : i = n
        · subst hin
          rw [if_pos rfl, List.getElem?_map, hx, hx2r]
          simp [hil]
        · rw [if_neg hin]
          rfl
      rw [hrr] at hq5
      have s31 := snd31 hq5 (i := i) (by rw [List.length_map]; exact hil)
      rw [List.length_map] at s31
      have wi := wrap_i64s i (by have := ok.num; omega)
      simp -implicitDefEqProofs only [sims.1, fx.1, keeps.1, tick_on, calleeK, extractV, oneV, faddrK, nonnil, b_shr, b_shl, fieldK, Nat.reduceAdd, Nat.reduceMul, Nat.reduceSub, Nat.reduceEqDiff, Nat.reduceLT, Nat.reduceLeDiff, Nat.reduceBEq, Nat.reduceBNe, reduceIte, Int.reduceEq, Int.reduceLT, Int.reduceLE, Int.reduceNe, Int.reduceToNat, c0, e0, e7, e8, hT5.tp, (tc _).1, rv5, wi]
      refine callD_all s31 en31 ?_
      obtain ⟨rs', hrs'⟩ : ∃ rs' : List (List V), rs' = ((T.rows.map (·.r)).eraseIdx i).map fun a => [V.ptr a 0] := ⟨_, rfl⟩
      rw [← hrs']
      have hqp := posT_pq h hnn
      have hql : T.q < bi := hlt _ (posT_q hnn)
      have hp6 : (m5.set T.q (.row 58 1 rs'))[p]? = some (.var 55 [.sl 1 T.q 0 T.rows.length, .mp T.a, .int .i64 T.last]) := by
        rw [List.getElem?_set_ne (Ne.symm hqp.1), hT5.tp]
        simp only [tbC, rv5]
      have hpl6 : p < (m5.set T.q (.row 58 1 rs')).length := by rw [List.length_set]; omega
      have hst6 : ∀ Q n : Nat, storeK 1 (m5.set T.q (.row 58 1 rs')) (.ptr p 0) (.sl 1 Q 0 n) = some ((m5.set T.q (.row 58 1 rs')).set p (.var 55 [.sl 1 Q 0 n, .mp T.a, .int .i64 T.last])) := fun Q n => by
        rw [storeK_one rfl, hp6]
        rfl
      simp -implicitDefEqProofs only [sims.1, fx.1, keeps.1, tick_on, calleeK, extractV, oneV, faddrK, nonnil, b_shr, b_shl, fieldK, Nat.reduceAdd, Nat.reduceMul, Nat.reduceSub, Nat.reduceEqDiff, Nat.reduceLT, Nat.reduceLeDiff, Nat.reduceBEq, Nat.reduceBNe, reduceIte, Int.reduceEq, Int.reduceLT, Int.reduceLE, Int.reduceNe, Int.reduceToNat, e0, e7, e8, hst6]
      have hrs2 : rs' = (((T.rows.set i x2).eraseIdx i).map fun x => [V.ptr x.r 0]) := by
        rw [hrs', List.eraseIdx_set_eq, eraseIdx_mapL, eraseIdx_mapL, List.map_map]
        rfl
      refine ⟨_, _, rfl, hT5.del (i := i) (x := x2) (List.getElem?_set_self hil) ?_ ?_ (fun n hn hnx h1 h2 => ?_), ⟨?_, rfl, .inl ⟨by omega, ?_⟩⟩, ⟨?_, fun n hn hn2 => ?_⟩, fun n hn => ?_⟩
      · rw [List.getElem?_set_self hpl6]
        simp only [tbC]
        rw [rowsV_nn (T := { T with at_ := T.at_.eraseIdx k, rows := (T.rows.set i x2).eraseIdx i }) hnn]
        simp only [List.eraseIdx_set_eq, List.length_eraseIdx, hil, if_true]
      · simp only
        rw [List.getElem?_set_ne hqp.1, List.getElem?_set_self (by omega), hrs2]
      · rw [List.getElem?_set_ne (Ne.symm h1), List.getElem?_set_ne (Ne.symm h2)]
      · rfl
      · simp only [List.eraseIdx_set_eq]
      · rw [List.length_set, List.length_set]; omega
      · rw [hbi] at hn
        rw [List.getElem?_set_ne (fun ee => hn2 (by rw [← ee]; simp [posT])), List.getElem?_set_ne (fun ee => hn2 (by rw [← ee]; exact posT_q hnn))]
        exact hk5 n hn hn2
      · refine hsubP n ?_
        simp only [posT, List.mem_cons, List.mem_append, List.mem_flatMap] at hn ⊢
        rcases hn with hn | hn | hn | ⟨z, hz, hnz⟩
        · exact .inl hn
        · exact .inr (.inl hn)
        · exact .inr (.inr (.inl hn))
        · exact .inr (.inr (.inr ⟨z, List.mem_of_mem_eraseIdx hz, hnz⟩))
    · have c0 : decide (x.many - 1 = 0) = false := decide_eq_false hz
      have hT5r : (T.rows.set i x2)[i]? = some x2 := List.getElem?_set_self hil
      have hT5m : x2 ∈ T.rows.set i x2 := List.mem_of_getElem? hT5r
      have hB5 := hT5.tr x2 hT5m
      obtain ⟨bs, clk, hm5, hb1, hb2, hb3⟩ := hB5.mp
      have hrg := rg59 hm5
      have h11 : (rwC x2)[11]? = some (.mp x2.mp) := w11 x2
      simp -implicitDefEqProofs only [sims.1, fx.1, keeps.1, tick_on, calleeK, extractV, oneV, faddrK, nonnil, b_shr, b_shl, fieldK, Nat.reduceAdd, Nat.reduceMul, Nat.reduceSub, Nat.reduceEqDiff, Nat.reduceLT, Nat.reduceLeDiff, Nat.reduceBEq, Nat.reduceBNe, reduceIte, Int.reduceEq, Int.reduceLT, Int.reduceLE, Int.reduceNe, Int.reduceToNat, c0, e0, e7, e8, hr5, h11, hrg]
      have hxl5 : x.r < m5.length := (List.getElem?_eq_some_iff.1 hr5).1
      have hpl5 : x2.mp < m5.length := (List.getElem?_eq_some_iff.1 hm5).1
      rw [List.length_map] at hb1
      have hx2rp : x2.r ≠ x2.mp := by
        have := posR_nodup hT5 hT5m
        simp only [posR, List.nodup_cons, List.mem_cons, not_or] at this
        exact this.1.1
      have hx2s : ∀ e ∈ x2.es, e.s ≠ x2.r := fun e he ee => by
        have := posR_nodup hT5 hT5m
        simp only [posR, List.nodup_cons, List.mem_cons, not_or] at this
        exact this.1.2 (List.mem_map.2 ⟨e, he, ee⟩)
      rw [hx2r] at hx2rp hx2s
      have hcb : ∀ G : Int, rwC { x2 with g := G } = (rwC x2).set 12 (.int .i64 G) := fun _ => rfl
      refine W_loopM (fun z : List Nat × Int × Bool => [(99, .ptr m5.length 0), (10, .bool z.2.2), (8, .ptr x.r 0), (0, .ptr p 0)])
        (fun z m' => m'.length = m5.length + 1 ∧ m'[m5.length]? = some (.iter x2.mp clk z.1 clk) ∧ m'[x.r]? = some (.var 61 (rwC { x2 with g := z.2.1 })) ∧ (∀ n, n < m5.length → n ≠ x.r → m'[n]? = m5[n]?) ∧ (z.2.2 = true → z.1 = []) ∧
          ∀ (a : Nat) (ha : a < bs.length) (he : a < x2.es.length), bs[a] ∈ z.1 → (x2.es[a].ins.headD (0, 0)).2 ≤ z.2.1)
        (fun z => leftB bs z.1) ([], x2.g, true) (Eq.trans (b := [(99, .ptr m5.length 0), (10, .bool true), (8, e 8), (0, e 0)]) (by kernel_rfl) (by rw [e8, e0]))
        ⟨by simp, by simp, by rw [List.getElem?_append_left hxl5]; exact hr5, fun n hn _ => List.getElem?_append_left hn, fun _ => rfl, fun a ha he hh => by simp at hh⟩ ?_
      rintro ⟨seen, G, fst⟩ m' ⟨hl', hit, hrx, hkp, hfst, hG⟩
      simp only at hit hrx hfst hG
      have hmm : m'[x2.mp]? = some (.map (x2.es.map enE) bs clk) := by rw [hkp _ hpl5 (Ne.symm hx2rp)]; exact hm5
      obtain ⟨l, hn, hall⟩ := next_es hit hmm hb1 hb3
      simp -implicitDefEqProofs only [sims.1, fx.1, keeps.1, tick_on, calleeK, extractV, oneV, faddrK, nonnil, b_shr, b_shl, fieldK, Nat.reduceAdd, Nat.reduceMul, Nat.reduceSub, Nat.reduceEqDiff, Nat.reduceLT, Nat.reduceLeDiff, Nat.reduceBEq, Nat.reduceBNe, reduceIte, Int.reduceEq, Int.reduceLT, Int.reduceLE, Int.reduceNe, Int.reduceToNat, hn]
      intro pp hpp
      rcases hall pp hpp with ⟨rfl, hdone⟩ | ⟨a, ha, he, hns, rfl⟩
      · simp -implicitDefEqProofs only [sims.1, fx.1, keeps.1, tick_on, calleeK, extractV, oneV, faddrK, nonnil, b_shr, b_shl, fieldK, Nat.reduceAdd, Nat.reduceMul, Nat.reduceSub, Nat.reduceEqDiff, Nat.reduceLT, Nat.reduceLeDiff, Nat.reduceBEq, Nat.reduceBNe, reduceIte, Int.reduceEq, Int.reduceLT, Int.reduceLE, Int.reduceNe, Int.reduceToNat]
        obtain ⟨x3, hx3⟩ : ∃ x3 : Rw, x3 = { x2 with g := G } := ⟨_, rfl⟩
        rw [← hx3] at hrx
        have hx3r : x3.r = x.r := by rw [hx3]; exact hx2r
        have hpR3 : posR x3 = posR x2 := by rw [hx3]; rfl
        have hd3 := posR_nodup hT5 hT5m
        have hT6 : TB (m'.set m5.length .dead) p { T with at_ := T.at_.eraseIdx k, rows := T.rows.set i x3 } := by
          have hd3' := hd3
          simp only [posR, List.nodup_cons, List.mem_cons, not_or] at hd3'
          have hke : ∀ n, n < m5.length → n ≠ x.r → (m'.set m5.length .dead)[n]? = m5[n]? := fun n hn h1 => by rw [List.getElem?_set_ne (by omega)]; exact hkp n hn h1
          have := hT5.upd (m' := m'.set m5.length .dead) (x' := x3) hT5r (by rw [hx3]) ⟨by rw [hx3r, List.getElem?_set_ne (by omega)]; exact hrx, by
              rw [show x3.mp = x2.mp by rw [hx3], show x3.es = x2.es by rw [hx3]]
              exact (hT5.tr x2 hT5m).mp.of (hke _ hpl5 (Ne.symm hx2rp)), fun e he => by
              rw [show x3.es = x2.es by rw [hx3]] at he
              have hse := (hT5.tr x2 hT5m).s e he
              rw [hke _ (List.getElem?_eq_some_iff.1 hse).1 (hx2s e he)]
              exact hse, fun e he => (hT5.tr x2 hT5m).ne e (by rw [show x3.es = x2.es by rw [hx3]] at he; exact he)⟩
            (fun n hn hnx => hke n (hT5.lt n hn) fun ee => hnx (by rw [ee, ← hx2r]; simp [posR])) (fun n hn => .inl (by rw [hpR3] at hn; exact hn)) (by rw [hpR3]; exact hd3)
          simp only [List.set_set] at this
          exact this
        have hne6 : T.rows.set i x3 ≠ [] := by simpa using hne
        refine callD_all (snd25 hT6 hne6 (by have := ok.num; simp only [List.length_set]; omega)) en25 ?_
        have h9 := hT6.perm hne6 (l := ssort ltR (T.rows.set i x3)) (ssort_perm _)
        simp only at h9
        simp -implicitDefEqProofs only [sims.1, fx.1, keeps.1, tick_on, calleeK, extractV, oneV, faddrK, nonnil, b_shr, b_shl, fieldK, Nat.reduceAdd, Nat.reduceMul, Nat.reduceSub, Nat.reduceEqDiff, Nat.reduceLT, Nat.reduceLeDiff, Nat.reduceBEq, Nat.reduceBNe, reduceIte, Int.reduceEq, Int.reduceLT, Int.reduceLE, Int.reduceNe, Int.reduceToNat]
        have hql : T.q < bi := hlt _ (posT_q hnn)
        refine ⟨_, _, rfl, h9, ⟨rfl, rfl, .inr ⟨by omega, G, fun e he => ?_, ?_⟩⟩, ⟨?_, fun n hn hn2 => ?_⟩, fun n hn => ?_⟩
        · rw [← hx2e] at he
          obtain ⟨a, ha⟩ := List.getElem?_of_mem he
          obtain ⟨ha1, ha2⟩ := List.getElem?_eq_some_iff.1 ha
          have := hG a (by omega) ha1 (hdone a (by omega))
          rw [ha2] at this
          exact this
        · rw [hx3, hx2]
        · rw [List.length_set, List.length_set]; omega
        · rw [hbi] at hn
          rw [List.getElem?_set_ne (fun ee => hn2 (by rw [← ee]; exact posT_q hnn)), List.getElem?_set_ne (by omega), hkp n (by omega) (fun ee => hn2 (by rw [ee]; exact mem_posT hxm hxr))]
          exact hk5 n hn hn2
        · have hn8 := (perm_pos (p := p) (T := { T with at_ := T.at_.eraseIdx k, rows := T.rows.set i x3 }) (ssort_perm (lt := ltR) (T.rows.set i x3))).mem_iff.1 hn
          refine hsubP n ?_
          simp only [posT, List.mem_cons, List.mem_append, List.mem_flatMap] at hn8 ⊢
          rcases hn8 with hn | hn | hn | ⟨z, hz, hnz⟩
          · exact .inl hn
          · exact .inr (.inl hn)
          · exact .inr (.inr (.inl hn))
          · refine .inr (.inr (.inr ?_))
            rcases mem_set hz with rfl | ⟨a, ha, hza⟩
            · exact ⟨x2, hT5m, by rw [← hpR3]; exact hnz⟩
            · exact ⟨z, set_mem hza ha, hnz⟩
      · have hen := entry_es (m := m'.set m5.length (.iter x2.mp clk (seen ++ [bs[a]]) clk)) (r := m5.length) (n := x2.mp) (seen := seen) (clk := clk) ha he (List.getElem?_set_self (by omega)) (by rw [List.getElem?_set_ne (by omega)]; exact hmm) hb1 hb2
        have hem : x2.es[a] ∈ x2.es := List.getElem_mem he
        obtain ⟨c, rest, hcr⟩ : ∃ c rest, x2.es[a].ins = c :: rest := by
          cases e3 : x2.es[a].ins with
          | nil => exact absurd e3 (hB5.ne _ hem)
          | cons c rest => exact ⟨c, rest, rfl⟩
        have hse := hB5.s _ hem
        have hsel := (List.getElem?_eq_some_iff.1 hse).1
        have hlen : x2.es[a].ins.length = rest.length + 1 := by rw [hcr]; rfl
        have l7 : (m'.set m5.length (.iter x2.mp clk (seen ++ [bs[a]]) clk)).length = m5.length + 1 := by rw [List.length_set]; exact hl'
        have k7 : ∀ n, n < m5.length → n ≠ x.r → (m'.set m5.length (.iter x2.mp clk (seen ++ [bs[a]]) clk))[n]? = m5[n]? := fun n hn h1 => by rw [List.getElem?_set_ne (by omega)]; exact hkp n hn h1
        have r7 : (m'.set m5.length (.iter x2.mp clk (seen ++ [bs[a]]) clk))[x.r]? = some (.var 61 (rwC { x2 with g := G })) := by rw [List.getElem?_set_ne (by omega)]; exact hrx
        have i7 : (m'.set m5.length (.iter x2.mp clk (seen ++ [bs[a]]) clk))[m5.length]? = some (.iter x2.mp clk (seen ++ [bs[a]]) clk) := List.getElem?_set_self (by omega)
        simp -implicitDefEqProofs only [sims.1, fx.1, keeps.1, tick_on, calleeK, extractV, oneV, faddrK, nonnil, b_shr, b_shl, fieldK, Nat.reduceAdd, Nat.reduceMul, Nat.reduceSub, Nat.reduceEqDiff, Nat.reduceLT, Nat.reduceLeDiff, Nat.reduceBEq, Nat.reduceBNe, reduceIte, Int.reduceEq, Int.reduceLT, Int.reduceLE, Int.reduceNe, Int.reduceToNat, hen]
        generalize m'.set m5.length (.iter x2.mp clk (seen ++ [bs[a]]) clk) = m7 at l7 k7 r7 i7 ⊢
        have hs7 : m7[x2.es[a].s]? = some (.row 65 2 (x2.es[a].ins.map inC)) := by rw [k7 _ hsel (hx2s _ hem)]; exact hse
        have i2 : ∀ {kk : IntKind}, iaddrS 2 (.sl 2 x2.es[a].s 0 x2.es[a].ins.length) (.int kk 0) = some (.ep 2 x2.es[a].s 0 0) := fun {_} => by rw [hlen]; exact iaddrS_sl0
        have l2 : loadK false 1 m7 (.ep 2 x2.es[a].s 0 1) = some (.int .i64 c.2) := by
          rw [loadK_ep, hs7, hcr]
          rfl
        have w12 : ∀ y, (rwC y)[12]? = some (.int .i64 y.g) := fun _ => rfl
        have ws12 : ∀ y (G : Int), (rwC y).set 12 (.int .i64 G) = rwC { y with g := G } := fun _ _ => rfl
        have hhd : (x2.es[a].ins.headD (0, 0)).2 = c.2 := by rw [hcr]; rfl
        have hlt7 := leftB_lt (bs := bs) (seen := seen) (List.getElem_mem ha) hns
        have hbnew : ∀ (G' : Int), G' ≥ c.2 → (G' ≥ G ∨ seen = []) → ∀ (a' : Nat) (ha' : a' < bs.length) (he' : a' < x2.es.length), bs[a'] ∈ seen ++ [bs[a]] → (x2.es[a'].ins.headD (0, 0)).2 ≤ G' := fun G' g1 g2 a' ha' he' hh => by
          rcases List.mem_append.1 hh with hh | hh
          · rcases g2 with g2 | g2
            · have := hG a' ha' he' hh; omega
            · rw [g2] at hh; simp at hh
          · have : a' = a := (List.getElem_inj hb2).1 (List.mem_singleton.1 hh)
            subst this
            rw [hhd]
            exact g1
        have fin : ∀ (m8 : Mem) (G' : Int), m8.length = m5.length + 1 → m8[m5.length]? = some (.iter x2.mp clk (seen ++ [bs[a]]) clk) → m8[x.r]? = some (.var 61 (rwC { x2 with g := G' })) → (∀ n, n < m5.length → n ≠ x.r → m8[n]? = m5[n]?) → True := fun _ _ _ _ _ _ => trivial
        have hst7 : storeK 1 m7 (.ptr x.r 12) (.int .i64 c.2) = some (m7.set x.r (.var 61 (rwC { x2 with g := c.2 }))) := by
          rw [storeK_one rfl, r7]
          rfl
        have kA : (m7.set x.r (.var 61 (rwC { x2 with g := c.2 }))).length = m5.length + 1 := by rw [List.length_set]; exact l7
        have kB : (m7.set x.r (.var 61 (rwC { x2 with g := c.2 })))[m5.length]? = some (.iter x2.mp clk (seen ++ [bs[a]]) clk) := by rw [List.getElem?_set_ne (by omega)]; exact i7
        have kC : (m7.set x.r (.var 61 (rwC { x2 with g := c.2 })))[x.r]? = some (.var 61 (rwC { x2 with g := c.2 })) := List.getElem?_set_self (by omega)
        have kD : ∀ n, n < m5.length → n ≠ x.r → (m7.set x.r (.var 61 (rwC { x2 with g := c.2 })))[n]? = m5[n]? := fun n hn h1 => by rw [List.getElem?_set_ne (Ne.symm h1)]; exact k7 n hn h1
        refine w_quiet ?_
        cases fst with
        | true =>
          have hs0 := hfst rfl
          simp -implicitDefEqProofs only [sims.1, fx.1, keeps.1, tick_on, calleeK, extractV, oneV, faddrK, nonnil, b_shr, b_shl, fieldK, Nat.reduceAdd, Nat.reduceMul, Nat.reduceSub, Nat.reduceEqDiff, Nat.reduceLT, Nat.reduceLeDiff, Nat.reduceBEq, Nat.reduceBNe, reduceIte, Int.reduceEq, Int.reduceLT, Int.reduceLE, Int.reduceNe, Int.reduceToNat, i2, l2, r7, wl, ws12]
          exact ⟨(seen ++ [bs[a]], c.2, false), by kernel_rfl, ⟨(by first | exact kA | exact l7), kB, kC, kD, fun hh => (by cases hh), hbnew c.2 (Int.le_refl _) (.inr hs0)⟩, hlt7⟩
        | false =>
          cases hc : decide (G < c.2) with
          | true =>
            rw [decide_eq_true_eq] at hc
            simp -implicitDefEqProofs only [sims.1, fx.1, keeps.1, tick_on, calleeK, extractV, oneV, faddrK, nonnil, b_shr, b_shl, fieldK, Nat.reduceAdd, Nat.reduceMul, Nat.reduceSub, Nat.reduceEqDiff, Nat.reduceLT, Nat.reduceLeDiff, Nat.reduceBEq, Nat.reduceBNe, reduceIte, Int.reduceEq, Int.reduceLT, Int.reduceLE, Int.reduceNe, Int.reduceToNat, i2, l2, r7, w12, wl, ws12, decide_eq_true hc]
            exact ⟨(seen ++ [bs[a]], c.2, false), by kernel_rfl, ⟨(by first | exact kA | exact l7), kB, kC, kD, fun hh => (by cases hh), hbnew c.2 (Int.le_refl _) (.inl (by omega))⟩, hlt7⟩
          | false =>
            simp -implicitDefEqProofs only [sims.1, fx.1, keeps.1, tick_on, calleeK, extractV, oneV, faddrK, nonnil, b_shr, b_shl, fieldK, Nat.reduceAdd, Nat.reduceMul, Nat.reduceSub, Nat.reduceEqDiff, Nat.reduceLT, Nat.reduceLeDiff, Nat.reduceBEq, Nat.reduceBNe, reduceIte, Int.reduceEq, Int.reduceLT, Int.reduceLE, Int.reduceNe, Int.reduceToNat, i2, l2, r7, w12, hc]
            rw [decide_eq_false_iff_not] at hc
            exact ⟨(seen ++ [bs[a]], G, false), by kernel_rfl, ⟨l7, i7, (by first | exact r7 | rfl), k7, fun hh => (by cases hh), hbnew G (by omega) (.inl (Int.le_refl _))⟩, hlt7⟩
end Go.Proofs.Ytffhmbdpmpgddaa
