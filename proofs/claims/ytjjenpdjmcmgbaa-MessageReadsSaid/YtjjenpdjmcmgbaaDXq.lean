/- The program's reading of a message: the call. No condition. -/
import Derived.Test.YtjjenpdjmcmgbaaDXp
namespace Go.Proofs.Ytjjenpdjmcmgbaa
open Go Ab
set_option linter.unusedSimpArgs false
set_option linter.unusedVariables false
set_option maxRecDepth 20000
theorem sl34_4 {l : List Nat} (h : 4 ≤ l.length) : sliceV Try.prog 34 (byV l) (some (.int .i64 4)) none = some (byV (l.drop 4)) := sl34lo (n := 4) h
theorem bu71r (l : List Nat) : buildV Try.prog 71 [(0, byV l), (1, .bool true)] = some (.agg [byV l, .bool true]) := by
  unfold byV
  generalize l.map byC = x
  kernel_rfl
/-- A defer behind two pieces. -/
theorem Snd_of_WD2 {P : Program} {f g : FuncId} {fn gn : Func} {id k : Nat} {caps : List Operand} {ts : Array TypeId} {t1 t2 : TypeId} {p1 p2 : String} {a1 a2 : Array Edge} {x1 x2 rest : Code} (hfol : P.follows .mixedOrders = true) (hf : P.funcs[f]? = some fn)
    (hb : fn.body = some (.seq x1 (.seq x2 (.seq (.region id #[⟨some k, .makeFunc (.func g) #[] caps.toArray, t1, p1, a1, none⟩, ⟨none, .defer { callee := .value (.tmp k), args := #[], argTypes := ts }, t2, p2, a2, none⟩] false) rest))))
    (hg : P.funcs[g]? = some gn) (hgb : gn.body.isSome = true) (hgn : (gn.name == "runtime.NumGoroutine") = false)
    (ho1 : codeOk fn.ntmps x1 = true) (ho2 : codeOk fn.ntmps x2 = true) (hok : codeOk fn.ntmps rest = true) (hk : Nat.blt k fn.ntmps = true) {vs : List V} {m : Mem} {Q : CR → Prop} (hlen : Nat.ble vs.length fn.ntmps = true)
    (h : W P m.length [] (.seq x1 x2) (fun _ => []) [] (argEnv vs) m fun ex env m1 => match ex with
      | .nrm => W P m1.length (resT fn) rest (fun _ => []) [] (put env (some k) (.fn g [] (caps.map (evO env)))) m1 (endD P fn g (caps.map (evO env)) Q)
      | _ => False) : Snd P f vs m Q := by
  intro ρ I w xs hr hl hrt
  refine calls_of_wp_defers hf hb ?_
  have hsz : (xs ++ Array.replicate (fn.ntmps - xs.size) undef).size = fn.ntmps := by
    rw [Nat.ble_eq] at hlen
    simp; omega
  have he := argEnv_sound (n := fn.ntmps - xs.size) hl hrt
  rw [Nat.blt_eq] at hk
  simp only [W] at h
  refine wp_seq (wp_mono (W_sound (ds := []) hfol x1 ho1 _ _ _ _ _ h ρ I _ w hr he hsz rfl (Nat.le_refl _)) ?_)
  rintro e A1 w1 ⟨ex, env1, m1, ρ1, I1, q1, q2, q3, q4, q5, q6, q7⟩
  cases ex with
  | exit i => exact q1.elim
  | ret => exact q1.elim
  | pan v => exact q1.elim
  | nrm =>
    cases q2
    simp only [Exit.then]
    refine wp_seq (wp_mono (W_sound (ds := []) hfol x2 ho2 _ _ _ _ _ q1 ρ1 I1 A1 w1 q3 q4 q5 q6 q7.len) ?_)
    rintro e A2 w2 ⟨ex, env2, m2, ρ2, I2, r1, r2, r3, r4, r5, r6, r7⟩
    cases ex with
    | exit i => exact r1.elim
    | ret => exact r1.elim
    | pan v => exact r1.elim
    | nrm =>
      cases r2
      simp only [Exit.then]
      exact wd_core hfol hg hgb hgn hok hk r1 r3 r4 r5 r6 (q7.trans r7)
set_option maxHeartbeats 8000000 in
theorem snd12b {b : List Nat} (hb : Byt b) (hs : short b = false) : Snd Try.prog 12 [byV b] [] (RD b) := by
  refine Snd_of_WD2 (k := 26) (g := 20) (caps := [.tmp 2, .tmp 3]) fol rfl rfl rfl (by kernel_rfl) (by kernel_rfl) (by kernel_rfl) (by kernel_rfl) (by kernel_rfl) (by kernel_rfl) (by kernel_rfl) ?_
  have lnr : ∀ M, lenV Try.prog M 34 (byV b) = some (.int .i64 (b.length : Int)) := fun M => by unfold byV; rw [lni34, List.length_map]
  have l8 : decide ((b.length : Int) < 8) = decide (b.length < 8) := by rw [Bool.eq_iff_iff]; simp; omega
  have e8 : decide (b.length < 8) = false := by
    unfold short at hs
    cases h : decide (b.length < 8) with
    | false => rfl
    | true => rw [h] at hs; cases hs
  obtain ⟨b0, b1, b2, b3, r, hbb⟩ := len8 (show 8 ≤ b.length by have := of_decide_eq_false e8; omega)
  have g0 : b.getD 0 0 = b0 := by rw [hbb]; rfl
  have g1 : tyB b = IntKind.i8.wrap (b1 : Int) := by rw [hbb]; rfl
  have hall : allB b = b2 * 256 + b3 := by rw [hbb]; rfl
  have h0 : b0 < 256 := hb.1 _ (by rw [hbb]; simp)
  have h2 : b2 < 256 := hb.1 _ (by rw [hbb]; simp)
  have h3 : b3 < 256 := hb.1 _ (by rw [hbb]; simp)
  have i0 : ∀ {k : IntKind}, iaddrS 1 (byV b) (.int k 0) = some (.ip (byC b0)) := fun {k} => by rw [hbb]; exact iaddrS_isl (j := 0) rfl
  have i1 : ∀ {k : IntKind}, iaddrS 1 (byV b) (.int k 1) = some (.ip (byC b1)) := fun {k} => by rw [hbb]; exact iaddrS_isl (j := 1) rfl
  have i2 : ∀ {k : IntKind}, iaddrS 1 (byV b) (.int k 2) = some (.ip (byC b2)) := fun {k} => by rw [hbb]; exact iaddrS_isl (j := 2) rfl
  have i3 : ∀ {k : IntKind}, iaddrS 1 (byV b) (.int k 3) = some (.ip (byC b3)) := fun {k} => by rw [hbb]; exact iaddrS_isl (j := 3) rfl
  have c0 : (byC b0)[0]? = some (.int .u8 (b0 : Int)) := rfl
  have c1 : (byC b1)[0]? = some (.int .u8 (b1 : Int)) := rfl
  have c2 : (byC b2)[0]? = some (.int .u8 (b2 : Int)) := rfl
  have c3 : (byC b3)[0]? = some (.int .u8 (b3 : Int)) := rfl
  have ls : decide ((b.length : Int) < ((b2 * 256 + b3 : Nat) : Int)) = false := by
    unfold short at hs
    rw [e8, hall, Bool.false_or] at hs
    have := of_decide_eq_false hs
    simp only [decide_eq_false_iff_not]
    omega
  simp -implicitDefEqProofs only [sims.1, fx.1, keeps.1, tick_on]
  refine w_quiet ?_
  simp -implicitDefEqProofs only [sims.1, fx.1, keeps.1, tick_on, b_shl, Nat.reduceEqDiff, Int.reduceLT, Int.reduceToNat, lnr, l8, e8, i2, i3, c2, c3, sh64 b2 h2, w8i b2 h2, w8i b3 h3, or64 b2 b3 h2 h3, ls]
  simp only [zMx, List.length_cons, List.length_nil, Nat.zero_add]
  generalize hz : zM = z
  have hzl : z.length = 36 := by rw [← hz]; rfl
  have w1 : IntKind.i8.wrap (b1 : Int) = tyB b := g1.symm
  simp -implicitDefEqProofs only [sims.1, fx.1, keeps.1, tick_on, calleeK, Nat.reduceEqDiff, i1, c1, w1]
  refine callD_q (snd21 (tyB b) _) en21 ?_ ?_
  rotate_left
  · rintro v m1 ⟨ex, a, b', h, _⟩
    cases h
  rintro v m1 ⟨ex, ka, kb, h, ha, hkb⟩
  cases h
  generalize hM : ([B.var 37 z, B.var 38 [.int .i64 0]] ++ ex : Mem) = M at ha hkb ⊢
  have r0 : M[0]? = some (.var 37 z) := by rw [← hM]; rfl
  have r1 : M[1]? = some (.var 38 [.int .i64 0]) := by rw [← hM]; rfl
  have hlM : 1 < M.length := (List.getElem?_eq_some_iff.1 r1).1
  clear hM
  simp -implicitDefEqProofs only [sims.1, fx.1, keeps.1, tick_on, extractV, Nat.reduceEqDiff, Nat.reduceLeDiff, storeK_agg, splice_all, at_app0, set_app0]
  refine w_quiet ?_
  have n0 : decide ((b0 : Int) = 1) = decide (b0 = 1) := by rw [Bool.eq_iff_iff]; simp; omega
  have na : decide ((b.length : Int) = ((b2 * 256 + b3 : Nat) : Int)) = decide (b.length = b2 * 256 + b3) := by rw [Bool.eq_iff_iff]; simp only [decide_eq_true_eq]; omega
  have fin70 : rdMsg b = none → ∀ m1, RD b (.ret (.tup [.agg z, .int .i64 70]) m1) := fun h m1 => ⟨m1, z, by
    have : decE b = 70 := by unfold decE; rw [hs, h]; rfl
    rw [this], by
    have : decX b = e0 0 0 := by unfold decX; rw [hs, h]; rfl
    rw [this, ← hz]; exact wksZ⟩
  have hpz : partK true 36 z 0 = some (.agg z) := partK_row hzl
  have sp : splice z 0 z = z := splice_all rfl
  have bad0 : ¬ (isTy (tyB b) = true ∧ b.getD 0 0 = 1 ∧ b.length = allB b) → rdMsg b = none := fun h => by unfold rdMsg; rw [if_neg h]
  have e1 : ∀ {n : Nat} {b : B} {ex : Mem}, M[n]? = some b → (M ++ ex)[n]? = some b := fun h => by rw [List.getElem?_append_left (List.getElem?_eq_some_iff.1 h).1]; exact h
  have rX : ∀ ex : Mem, (M ++ ex)[0]? = some (.var 37 z) := fun ex => e1 r0
  have rY : ∀ ex : Mem, (M ++ ex)[1]? = some (.var 38 [.int .i64 0]) := fun ex => e1 r1
  have sX : ∀ ex : Mem, (M ++ ex).set 0 (.var 37 z) = M ++ ex := fun ex => set_same (rX ex)
  cases eT : isTy (tyB b)
  · have bad : rdMsg b = none := bad0 fun h => by rw [eT] at h; cases h.1
    simp -implicitDefEqProofs only [sims.1, fx.1, keeps.1, tick_on, Nat.reduceEqDiff]
    simp -implicitDefEqProofs only [sims.1, fx.1, keeps.1, tick_on, Nat.reduceEqDiff, Nat.reduceLT, rX, hpz, storeK_agg, hzl, sp, Nat.le_refl, sX, rY]
    exact retR (l := z) (v := .int .i64 70) (by rw [List.getElem?_set_ne (by omega)]; exact rX _) hzl (by rw [List.getElem?_set_self (by simp; omega)]) rfl rfl (fin70 bad _)
  cases eb : decide (b0 = 1)
  · have bad : rdMsg b = none := bad0 fun h => by rw [g0] at h; exact (of_decide_eq_false eb) h.2.1
    simp -implicitDefEqProofs only [sims.1, fx.1, keeps.1, tick_on, Nat.reduceEqDiff, eb, i0, c0, n0]
    simp -implicitDefEqProofs only [sims.1, fx.1, keeps.1, tick_on, Nat.reduceEqDiff, Nat.reduceLT, rX, hpz, storeK_agg, hzl, sp, Nat.le_refl, sX, rY]
    exact retR (l := z) (v := .int .i64 70) (by rw [List.getElem?_set_ne (by omega)]; exact rX _) hzl (by rw [List.getElem?_set_self (by simp; omega)]) rfl rfl (fin70 bad _)
  cases ea : decide (b.length = b2 * 256 + b3)
  · have bad : rdMsg b = none := bad0 fun h => by rw [hall] at h; exact (of_decide_eq_false ea) h.2.2
    simp -implicitDefEqProofs only [sims.1, fx.1, keeps.1, tick_on, b_shl, Nat.reduceEqDiff, Int.reduceLT, Int.reduceToNat, eb, ea, lnr, i0, i2, i3, c0, c2, c3, n0, sh64 b2 h2, w8i b2 h2, w8i b3 h3, or64 b2 b3 h2 h3, na]
    simp -implicitDefEqProofs only [sims.1, fx.1, keeps.1, tick_on, Nat.reduceEqDiff, Nat.reduceLT, rX, hpz, storeK_agg, hzl, sp, Nat.le_refl, sX, rY]
    exact retR (l := z) (v := .int .i64 70) (by rw [List.getElem?_set_ne (by omega)]; exact rX _) hzl (by rw [List.getElem?_set_self (by simp; omega)]) rfl rfl (fin70 bad _)
  have eM : rdMsg b = (rdN 4 (b.drop 4)).bind fun i => (rdBody (tyB b) i.1 i.2).bind fun x => if x.2 = [] ∧ chkM x.1 = 0 then some x.1 else none := by
    unfold rdMsg
    rw [if_pos ⟨eT, by rw [g0]; exact of_decide_eq_true eb, by rw [hall]; exact of_decide_eq_true ea⟩]
  simp -implicitDefEqProofs only [sims.1, fx.1, keeps.1, tick_on, b_shl, Nat.reduceEqDiff, Int.reduceLT, Int.reduceToNat, eb, ea, lnr, i0, i2, i3, c0, c2, c3, n0, sh64 b2 h2, w8i b2 h2, w8i b3 h3, or64 b2 b3 h2 h3, na]
  have hmz : ∀ (t : Int) (i : Nat), (z.set 0 (.int .i8 t)).set 1 (.int .u32 (i : Int)) = mzR t i := by rw [← hz]; intros; rfl
  have hz1 : ∀ t : Int, (z.set 0 (.int .i8 t))[1]? = some (.int .u32 0) := by rw [← hz]; intros; rfl
  have hset0 : ∀ (x : B) (ex : Mem), (M ++ ex).set 0 x = M.set 0 x ++ ex := fun x ex => List.set_append_left _ _ (by omega)
  have hb4 : Byt (b.drop 4) := hb.drop 4
  have h4l : 4 ≤ b.length := by have := of_decide_eq_false e8; omega
  simp -implicitDefEqProofs only [sims.1, fx.1, keeps.1, tick_on, faddrK, Nat.reduceEqDiff, Nat.reduceLT, i1, c1, w1, rX, hzl, hset0]
  generalize hM2 : M.set 0 (.var 37 (z.set 0 (.int .i8 (tyB b)))) = M2
  have lM2 : M2.length = M.length := by rw [← hM2, List.length_set]
  have s0 : M2[0]? = some (.var 37 (z.set 0 (.int .i8 (tyB b)))) := by rw [← hM2]; exact List.getElem?_set_self (by omega)
  have s1 : M2[1]? = some (.var 38 [.int .i64 0]) := by rw [← hM2, List.getElem?_set_ne (by omega)]; exact r1
  have sa : M2[ka]? = some (.var 64 [.fn 41 [] []]) := by rw [← hM2, List.getElem?_set_ne (fun h => by rw [← h, r0] at ha; cases ha)]; exact ha
  have sb : M2[kb]? = some (.var 105 [.fn 43 [] []]) := by rw [← hM2, List.getElem?_set_ne (fun h => by rw [← h, r0] at hkb; cases hkb)]; exact hkb
  rw [← lM2]
  clear hM2 rX rY sX e1 ha hkb r0 r1 lM2 hset0
  simp -implicitDefEqProofs only [sims.1, fx.1, keeps.1, tick_on, calleeK, faddrK, Nat.reduceEqDiff, sl34_4 h4l, bu71r, List.append_assoc, List.length_append]
  obtain ⟨f, caps, hgo, hen, hgs⟩ := go_read eT ka kb
  rw [hgo]
  have lM : 1 < M2.length := (List.getElem?_eq_some_iff.1 s1).1
  have e1 : ∀ {n : Nat} {b : B} {ex : Mem}, M2[n]? = some b → (M2 ++ ex)[n]? = some b := fun h => by rw [List.getElem?_append_left (List.getElem?_eq_some_iff.1 h).1]; exact h
  generalize hM3 : (M2 ++ [B.var 66 [V.fn f [] caps], B.var 71 [byV (List.drop 4 b), V.bool true]] : Mem) = M3
  have t0 : M3[0]? = some (.var 37 (z.set 0 (.int .i8 (tyB b)))) := by rw [← hM3]; exact e1 s0
  have t1 : M3[1]? = some (.var 38 [.int .i64 0]) := by rw [← hM3]; exact e1 s1
  have ta : M3[ka]? = some (.var 64 [.fn 41 [] []]) := by rw [← hM3]; exact e1 sa
  have tb : M3[kb]? = some (.var 105 [.fn 43 [] []]) := by rw [← hM3]; exact e1 sb
  have tw : M3[M2.length]? = some (.var 66 [.fn f [] caps]) := by rw [← hM3]; exact at_app0
  have tc : Cr M3 (M2.length + 1) (b.drop 4) := by unfold Cr; rw [← hM3]; exact at_app 1
  have na' : kb ≠ M2.length + 1 := fun h => by unfold Cr at tc; rw [← h, tb] at tc; cases tc
  have nb' : kb ≠ 0 := fun h => by rw [h, t0] at tb; cases tb
  have nka : ka ≠ 0 := fun h => by rw [h, t0] at ta; cases ta
  have nkc : ka ≠ M2.length + 1 := fun h => by unfold Cr at tc; rw [← h, ta] at tc; cases tc
  generalize M2.length = n2 at tw tc lM na' nkc ⊢
  clear hM3 s0 s1 sa sb e1
  have bad1 : ∀ {M : Mem} {l : List V} {v : V} {env : Env}, rdMsg b = none → M[0]? = some (.var 37 l) → l.length = 36 → M[1]? = some (.var 38 [v]) → env 2 = .ptr 0 0 → env 3 = .ptr 1 0 → endD Try.prog Try.prog.funcs[12] 20 [.ptr 0 0, .ptr 1 0] (RD b) (.pan wrongV) env M := fun h g1 g2 g3 g4 g5 =>
    boomR g1 g2 g3 g4 g5 fun m' => by rw [hz]; exact fin70 h m'
  refine callD_r (snd22r (o := 1) tc t0 (by omega) (hz1 _) hb4.1 hb4.2) en22 ?_ ?_
  rotate_left
  · intro l1 m1 e k1 q1 hl
    have d := map_none' (cellR_none e)
    exact bad1 (by rw [eM, d, Option.bind_none]) q1 (by rw [hl, List.length_set, hzl]) (k1.2 _ _ (by omega) (by omega) t1) rfl rfl
  intro l1 r1' m1 e k1 c1' q1
  obtain ⟨v, e5, rfl⟩ := cellR_some e
  obtain ⟨i, di, e6⟩ := map_some' e5
  cases e6
  rw [hmz] at q1
  rw [di, Option.bind_some] at eM
  have B1 : Byt i.2 := rdN_byt hb4 di
  have hid := rdN_lt hb4 di
  have u1 := k1.2 _ _ (by omega) (by omega) t1
  have ua := k1.2 _ _ nkc nka ta
  have ub := k1.2 _ _ na' nb' tb
  have uw := k1.2 _ _ (by omega) (by omega) tw
  simp -implicitDefEqProofs only [sims.1, fx.1, keeps.1, tick_on, calleeK, faddrK, Nat.reduceEqDiff, uw]
  refine callD_r (hgs c1' B1 q1 (by omega) na' nb' ua ub) hen ?_ ?_
  rotate_left
  · intro l2 m2 e k2 q2 hl
    have d := map_none' e
    exact bad1 (by rw [eM, d, Option.bind_none]) q2 (by rw [hl, mz_len]) (k2.2 _ _ (by omega) (by omega) u1) rfl rfl
  intro l2 r2 m2 e k2 c2' q2
  obtain ⟨x, dx, e6⟩ := map_some' e
  cases e6
  rw [dx, Option.bind_some] at eM
  have hx : wfM x.1 := rdBody_wf (i8r _) hid B1 dx
  have v1 := k2.2 _ _ (by omega) (by omega) u1
  have hcx : m2[n2 + 1]? = some (.var 71 [byV x.2, .bool true]) := c2'
  have lnx : ∀ M, lenV Try.prog M 34 (byV x.2) = some (.int .i64 (x.2.length : Int)) := fun M => by unfold byV; rw [lni34, List.length_map]
  have z2 := eqC0 x.2.length
  have hml : (msC x.1).length = 36 := rfl
  have hpm : partK true 36 (msC x.1) 0 = some (.agg (msC x.1)) := partK_row hml
  have b37 : buildV Try.prog 37 [] = some (.agg z) := by rw [← hz]; kernel_rfl
  have sp2 : splice (msC x.1) 0 z = z := splice_all (by rw [hzl]; rfl)
  have sp3 : splice (msC x.1) 0 (msC x.1) = msC x.1 := splice_all rfl
  have q2l := (List.getElem?_eq_some_iff.1 v1).1
  have q2s := set_same q2
  have v2 : ∀ y : B, (m2.set 0 y)[1]? = some (.var 38 [.int .i64 0]) := fun y => by rw [List.getElem?_set_ne (by omega)]; exact v1
  have w0 : ∀ y : B, (m2.set 0 y)[0]? = some y := fun y => List.getElem?_set_self (show 0 < m2.length by omega)
  have w01 : ∀ y u : B, ((m2.set 0 y).set 1 u)[0]? = some y := fun y u => by rw [List.getElem?_set_ne (show (1 : Nat) ≠ 0 by omega)]; exact w0 y
  have w11 : ∀ (m : Mem) (u : B), m.length = m2.length → (m.set 1 u)[1]? = some u := fun m u h => List.getElem?_set_self (show 1 < m.length by omega)
  have w10 : ∀ u : B, (m2.set 1 u)[0]? = some (.var 37 (msC x.1)) := fun u => by rw [List.getElem?_set_ne (show (1 : Nat) ≠ 0 by omega)]; exact q2
  have fin0 : rdMsg b = some x.1 → ∀ m1, RD b (.ret (.tup [.agg (msC x.1), .int .i64 0]) m1) := fun h m1 => ⟨m1, msC x.1, by
    have : decE b = 0 := by unfold decE; rw [hs, h]; rfl
    rw [this], by
    have : decX b = x.1 := by unfold decX; rw [hs, h]; rfl
    rw [this]; exact Wks.refl _⟩
  cases en : decide (x.2.length = 0)
  · have hn : x.2 ≠ [] := fun h => (of_decide_eq_false en) (by rw [h]; rfl)
    rw [if_neg fun h => hn h.1] at eM
    rw [en] at z2
    simp -implicitDefEqProofs only [sims.1, fx.1, keeps.1, tick_on, faddrK, nonnil, Nat.reduceEqDiff, hcx, lnx, z2]
    simp only [zMx]
    simp -implicitDefEqProofs only [sims.1, fx.1, keeps.1, tick_on, Nat.reduceEqDiff, Nat.reduceLT, storeK_agg, hz, q2, hml, hzl, sp2, Nat.le_refl, v2]
    refine retR (l := z) (v := .int .i64 70) (w01 _ _) hzl (w11 _ _ (by rw [List.length_set])) ?_ ?_ (fin70 eM _) <;> rfl
  have hn : x.2 = [] := List.eq_nil_of_length_eq_zero (of_decide_eq_true en)
  rw [en] at z2
  simp -implicitDefEqProofs only [sims.1, fx.1, keeps.1, tick_on, calleeK, faddrK, nonnil, Nat.reduceEqDiff, hcx, lnx, z2, q2, hpm]
  refine callD_ans (ans9 x.1 hx) en9 (nfs_cons (nfs_ms x.1) rfl) rfl ?_
  have zc : binV Try.prog .neq 38 (.int .i64 (chkM x.1)) (.int .i64 0) = some (.bool (!decide (chkM x.1 = 0))) := rfl
  cases ec : decide (chkM x.1 = 0)
  · rw [if_neg fun h => (of_decide_eq_false ec) h.2] at eM
    simp -implicitDefEqProofs only [sims.1, fx.1, keeps.1, tick_on, Nat.reduceEqDiff, ec]
    simp only [zMx]
    simp -implicitDefEqProofs only [sims.1, fx.1, keeps.1, tick_on, Nat.reduceEqDiff, Nat.reduceLT, storeK_agg, hz, q2, hml, hzl, sp2, Nat.le_refl, v2]
    refine retR (l := z) (v := .int .i64 70) (w01 _ _) hzl (w11 _ _ (by rw [List.length_set])) ?_ ?_ (fin70 eM _) <;> rfl
  · rw [if_pos ⟨hn, of_decide_eq_true ec⟩] at eM
    simp -implicitDefEqProofs only [sims.1, fx.1, keeps.1, tick_on, Nat.reduceEqDiff, Nat.reduceLT, storeK_agg, ec, q2, hpm, hml, sp3, q2s, v1, Nat.le_refl]
    refine retR (l := msC x.1) (v := .int .i64 0) (w10 _) hml (w11 _ _ rfl) ?_ ?_ (fin0 eM _) <;> rfl
end Go.Proofs.Ytjjenpdjmcmgbaa
