/- A message, written whole. No condition. A message, written whole: the call. No condition. -/
import Derived.Test.YtjjenpdjmcmgbaaDZg
namespace Go.Proofs.Ytjjenpdjmcmgbaa
open Go Ab
set_option linter.unusedSimpArgs false
set_option linter.unusedVariables false
set_option maxRecDepth 20000
/-- What stands behind a message's head. -/
def body (x : Ms) : List Nat :=
  if x.ty = 4 then enc x.sw 2 ++ (encP x.ports ++ encP x.edge) else if x.ty = 5 then enc (i8N x.dd) 1 ++ encR x.r else if x.ty = 6 ∨ x.ty = 7 then enc x.port 2 ++ encB x.frame
  else if x.ty = 11 then enc x.port 2 ++ encHs x.helds else if x.ty = 12 then enc x.port 2 ++ enc (b01 x.up) 1 else if x.ty = 13 then enc x.code 2 else []
/-- Ranks that four bytes hold, wherever they are written. -/
def Fair (x : Ms) : Prop := (x.ty = 5 → rkOK x.r) ∧ (x.ty = 11 → ∀ h ∈ x.helds, rkOK h.r)
theorem go_any {x : Ms} (hx : wfM x) (hf : Fair x) (ht : isTy x.ty = true) (a b : Nat) : ∃ f caps, goV x.ty a b = .fn f [] caps ∧ enterable Try.prog f = true ∧
    ∀ {m : Mem} {c : Nat} {p : V} {t : List V} {l : List Nat}, Cd m c l → Tg c m p (msC x ++ t) → m[a]? = some (.var 64 [.fn 41 [] []]) → m[b]? = some (.var 105 [.fn 43 [] []]) → Snd Try.prog f ([.ptr c 0, p] ++ caps) m (WQ c m l (body x)) := by
  unfold goV body
  by_cases h4 : x.ty = 4
  · rw [if_pos h4, if_pos h4]
    exact ⟨_, _, rfl, en50, fun hc hp ha hb => snd50 hx hc hb hp⟩
  rw [if_neg h4, if_neg h4]
  by_cases h5 : x.ty = 5
  · rw [if_pos h5, if_pos h5]
    exact ⟨_, _, rfl, en51, fun hc hp ha hb => rule_parts hx (hf.1 h5) hc hp⟩
  rw [if_neg h5, if_neg h5]
  by_cases h6 : x.ty = 6 ∨ x.ty = 7
  · rw [if_pos h6, if_pos h6]
    exact ⟨_, _, rfl, en46, fun hc hp ha hb => snd46 hx hc ha hp⟩
  rw [if_neg h6, if_neg h6]
  by_cases h11 : x.ty = 11
  · rw [if_pos h11, if_pos h11]
    exact ⟨_, _, rfl, en54, fun hc hp ha hb => snd54 hx (hf.2 h11) hc ha hp⟩
  rw [if_neg h11, if_neg h11]
  by_cases h12 : x.ty = 12
  · rw [if_pos h12, if_pos h12]
    exact ⟨_, _, rfl, en57, fun hc hp ha hb => snd57 hx hc ha hp⟩
  rw [if_neg h12, if_neg h12]
  by_cases h13 : x.ty = 13
  · rw [if_pos h13, if_pos h13]
    exact ⟨_, _, rfl, en59, fun hc hp ha hb => snd59 hx hc hp⟩
  rw [if_neg h13, if_neg h13, if_pos ht]
  exact ⟨_, _, rfl, en60, fun hc hp ha hb => snd60 hc⟩
def head (x : Ms) : List Nat := [1, i8N x.ty] ++ enc ((body x).length + 8) 2 ++ enc x.id 4
def whole (x : Ms) : List Nat := head x ++ body x
def fits (x : Ms) : Bool := decide ((body x).length + 8 ≤ 8192)
def QWr (x : Ms) (r : CR) : Prop := (fits x = true ∧ ∃ m1 k, r = .ret (.tup [.sl 1 k 0 (whole x).length, .bool true]) m1 ∧ m1[k]? = some (rowB (whole x))) ∨ (fits x = false ∧ ∃ m1, r = .ret (.tup [.nils, .bool false]) m1)
theorem rs15 (env : Env) (m : Mem) : resV Try.prog Try.prog.funcs[15] env m = (loadV Try.prog m 34 (env 2)).bind fun v => (loadV Try.prog m 4 (env 3)).bind fun u => some (.tup [v, u]) := by
  have : ∀ (fn : Func), fn.results = #[.cell 2 34, .cell 3 4] → resV Try.prog fn env m = (loadV Try.prog m 34 (env 2)).bind fun v => (loadV Try.prog m 4 (env 3)).bind fun u => some (.tup [v, u]) := by
    intro fn h
    unfold resV
    rw [h]
    simp only [List.mapM_cons, List.mapM_nil, resOne]
    cases loadV Try.prog m 34 (env 2) with
    | none => rfl
    | some v =>
      cases loadV Try.prog m 4 (env 3) with
      | none => rfl
      | some u => rfl
  exact this _ (by kernel_rfl)
theorem ne20 {t : Nat} {v : V} : binV Try.prog .neq 20 (.ifc t v) .nili = some (.bool true) := by kernel_rfl
theorem ne20n : binV Try.prog .neq 20 .nili .nili = some (.bool false) := by kernel_rfl
theorem evO_nili (env : Env) : evO env (.const .nilIface) = .nili := rfl
theorem stO (M : Mem) (n : Nat) {v : V} (h : oneV v = true) {ty : Nat} {u : V} (hm : M[n]? = some (.var ty [u])) : storeK 1 M (.ptr n 0) v = some (M.set n (.var ty [v])) := by
  rw [storeK_one h, hm]
  rfl
set_option maxHeartbeats 2000000 in
theorem boomW {Q : CR → Prop} {env : Env} {M : Mem} {u v : V} (h1 : M[1]? = some (.var 34 [u])) (h2 : M[2]? = some (.var 4 [v])) (e2 : env 2 = .ptr 1 0) (e3 : env 3 = .ptr 2 0)
    (hq : ∀ m', Q (.ret (.tup [.nils, .bool false]) m')) : endD Try.prog Try.prog.funcs[15] 30 [.ptr 1 0, .ptr 2 0] Q (.pan longV) env M := by
  have hl : 2 < M.length := (List.getElem?_eq_some_iff.1 h2).1
  refine ⟨fun m' => m' = ((M ++ [B.var 84 []]).set 1 (B.var 34 [.nils])).set 2 (B.var 4 [.bool false]), ?_, ?_⟩
  · refine SndD_of_W (k := 5) (j := 2) fol rfl rfl (by kernel_rfl) (by kernel_rfl) (by kernel_rfl) (by kernel_rfl) (by kernel_rfl) rfl ?_
    unfold longV
    have n1 : binV Try.prog .neq 20 (.ifc 84 (.agg [])) .nili = some (.bool true) := ne20
    have z1 : splice ([] : List V) 0 [] = [] := rfl
    have a1 : (M ++ [B.var 84 []])[M.length]? = some (.var 84 []) := by simp
    have a2 : (M ++ [B.var 84 []]).set M.length (.var 84 []) = M ++ [.var 84 []] := by simp
    have s1 : storeK 1 (M ++ [B.var 84 []]) (.ptr 1 0) .nils = some ((M ++ [B.var 84 []]).set 1 (.var 34 [.nils])) := stO _ _ rfl (by rw [List.getElem?_append_left (by omega), h1])
    have s2 : storeK 1 ((M ++ [B.var 84 []]).set 1 (.var 34 [.nils])) (.ptr 2 0) (.bool false) = some (((M ++ [B.var 84 []]).set 1 (.var 34 [.nils])).set 2 (.var 4 [.bool false])) := stO _ _ rfl (by rw [List.getElem?_set_ne (by omega), List.getElem?_append_left (by omega), h2])
    have ev : ∀ env, evO env (.const (.slice none 0 0)) = .nils := fun _ => rfl
    simp -implicitDefEqProofs only [sims.1, fx.1, keeps.1, tick_on, extractV, Nat.reduceEqDiff, Nat.reduceLeDiff, Option.getD_some, evO_nili, n1, storeK_agg, z1, a1, a2, ev, s1, s2]
  · rintro m' rfl
    refine ⟨.tup [.nils, .bool false], ?_, hq _⟩
    rw [rs15, e2, e3, ld34, ld4, loadK_ptr, loadK_ptr, List.getElem?_set_ne (by omega), List.getElem?_set_self (by simp; omega), List.getElem?_set_self (by simp; omega)]
    rfl
theorem retW {Q : CR → Prop} {env : Env} {M : Mem} {u v : V} (h1 : M[1]? = some (.var 34 [u])) (h2 : M[2]? = some (.var 4 [v])) (e2 : env 2 = .ptr 1 0) (e3 : env 3 = .ptr 2 0)
    (hq : Q (.ret (.tup [u, v]) M)) : endD Try.prog Try.prog.funcs[15] 30 [.ptr 1 0, .ptr 2 0] Q .ret env M := by
  refine ⟨fun m' => m' = M, ?_, ?_⟩
  · refine SndD_of_W (k := 5) (j := 2) fol rfl rfl (by kernel_rfl) (by kernel_rfl) (by kernel_rfl) (by kernel_rfl) (by kernel_rfl) rfl ?_
    have n1 : binV Try.prog .neq 20 .nili .nili = some (.bool false) := ne20n
    simp -implicitDefEqProofs only [sims.1, keeps.1, tick_on, Nat.reduceEqDiff, Option.getD_none, evO_nili, n1]
  · rintro m' rfl
    refine ⟨_, ?_, hq⟩
    rw [rs15, e2, e3, ld34, ld4, loadK_ptr, loadK_ptr, h1, h2]
    rfl
end Go.Proofs.Ytjjenpdjmcmgbaa
namespace Go.Proofs.Ytjjenpdjmcmgbaa
open Go Ab
set_option linter.unusedSimpArgs false
set_option linter.unusedVariables false
set_option maxRecDepth 20000
theorem m0_at (x : Ms) : (msC x)[0]? = some (.int .i8 x.ty) := rfl
theorem bu71z : buildV Try.prog 71 [] = some (.agg [.nils, .bool false]) := by kernel_rfl
theorem add8 (n : Nat) (h : n ≤ 8200) : IntKind.i64.wrap ((n : Int) + 8) = ((n + 8 : Nat) : Int) := by rw [IntKind.wrap_i64]; omega
theorem i8u8 (x : Int) : IntKind.u8.wrap x = (i8N x : Int) := by rw [IntKind.wrap_u8]; unfold i8N; omega
theorem bs34t (m : Mem) (b : Nat) : bsliceV Try.prog 34 2 [(0, .int .u8 1), (1, .int .u8 (b : Int))] m = some (.sl 1 m.length 0 2, m ++ [rowB [1, b]]) := by kernel_rfl
theorem bu71s (k : Nat) : buildV Try.prog 71 [(0, .sl 1 k 0 2)] = some (.agg [.sl 1 k 0 2, .bool false]) := by kernel_rfl
theorem cont_buf {m : Mem} {k : Nat} {l : List Nat} (h : l ≠ [] → m[k]? = some (rowB l)) : contV m 1 (buf k l) = some (l.map byC) := by
  cases l with
  | nil => rfl
  | cons b r => exact cont_row (h (by simp)) (by simp)
theorem ap34w {m : Mem} {H l : List Nat} {kh k : Nat} (hh : m[kh]? = some (rowB H)) (h : l ≠ [] → m[k]? = some (rowB l)) (hb : H.length + l.length < 1000000) :
    appendA Try.prog 34 34 (.sl 1 kh 0 H.length) (buf k l) m = some (.sl 1 m.length 0 (H ++ l).length, m.set kh .dead ++ [rowB (H ++ l)]) := by
  have := append_sl (len := H.length) un34 ze5 isl34 (cont_buf h) hh (by simp) (by simp; omega) (by simp; omega)
  rw [this]
  simp [rowB]
def w1 (m : Mem) (kh : Nat) (H l : List Nat) : Mem := m.set kh .dead ++ [rowB (H ++ l)]
def w2 (m : Mem) (kh : Nat) (H l : List Nat) : Mem := (w1 m kh H l).set 1 (.var 34 [.sl 1 m.length 0 (H ++ l).length])
def w3 (m : Mem) (kh : Nat) (H l : List Nat) : Mem := (w2 m kh H l).set 2 (.var 4 [.bool true])
def JE (m : Mem) (kh : Nat) (H l : List Nat) (i : Nat) (M : Mem) : Prop := [m, w1 m kh H l, w2 m kh H l, w3 m kh H l][i]? = some M
theorem JE0 {m : Mem} {kh : Nat} {H l : List Nat} {i : Nat} {M : Mem} (h : JE m kh H l i M) (hi : i ≤ 0) : M = m := by
  obtain rfl : i = 0 := by omega
  exact (Option.some.inj h).symm
set_option maxHeartbeats 8000000 in
theorem snd15 {x : Ms} (hx : wfM x) (hf : Fair x) (ht : isTy x.ty = true) : Snd Try.prog 15 [.agg (msC x)] [] (QWr x) := by
  refine Snd_of_WD (k := 9) (g := 30) (caps := [.tmp 2, .tmp 3]) fol rfl rfl rfl (by kernel_rfl) (by kernel_rfl) (by kernel_rfl) (by kernel_rfl) (by kernel_rfl) (by kernel_rfl) ?_
  simp -implicitDefEqProofs only [sims.1, fx.1, keeps.1, tick_on, calleeK, faddrK, Nat.reduceAdd, Nat.reduceEqDiff, m0_at]
  refine callD_q (snd21 x.ty _) en21 ?_ ?_
  rotate_left
  · rintro v m1 ⟨ex, a, b, h, _⟩
    cases h
  rintro v m1 ⟨ex, a, b, h, ha, hb⟩
  cases h
  obtain ⟨f, caps, hgo, hen, hgs⟩ := go_any hx hf ht a b
  rw [hgo]
  generalize hM : ([B.var 37 (msC x), B.var 34 [.nils], B.var 4 [.bool false]] ++ ex : Mem) = M at ha hb ⊢
  have g0 : M[0]? = some (.var 37 (msC x)) := by rw [← hM]; rfl
  have g1 : M[1]? = some (.var 34 [.nils]) := by rw [← hM]; rfl
  have g2 : M[2]? = some (.var 4 [.bool false]) := by rw [← hM]; rfl
  have hl : 2 < M.length := (List.getElem?_eq_some_iff.1 g2).1
  clear hM
  simp -implicitDefEqProofs only [sims.1, fx.1, keeps.1, tick_on, calleeK, extractV, faddrK, Nat.reduceEqDiff, Nat.reduceLeDiff, storeK_agg, splice_all, List.append_assoc, List.length_append, at_app0, set_app0]
  have cd0 : Cd (M ++ [B.var 66 [V.fn f [] caps], B.var 71 [V.nils, V.bool false]]) (M.length + 1) [] := ⟨0, at_app 1, by simp, by simp⟩
  have e0 : ∀ {n : Nat} {b : B} {ex : Mem}, M[n]? = some b → (M ++ ex)[n]? = some b := fun h => by rw [List.getElem?_append_left (List.getElem?_eq_some_iff.1 h).1]; exact h
  refine callD_w (hgs (t := []) cd0 (by rw [List.append_nil]; exact Tg.var (e0 g0) (by omega)) (e0 ha) (e0 hb)) hen ?_ ?_
  rotate_left
  · intro m1 k1 c1
    refine boomW (k1.2 _ _ _ (by omega) (e0 g1)) (k1.2 _ _ _ (by omega) (e0 g2)) rfl rfl fun m' => .inr ⟨?_, m', rfl⟩
    rw [List.nil_append] at c1
    unfold fits
    simp only [decide_eq_false_iff_not]
    omega
  intro m1 k1 c1
  rw [List.nil_append] at c1
  have r0 := k1.2 _ _ _ (by omega) (e0 (ex := [B.var 66 [V.fn f [] caps], B.var 71 [V.nils, V.bool false]]) g0)
  have r1 := k1.2 _ _ _ (by omega) (e0 (ex := [B.var 66 [V.fn f [] caps], B.var 71 [V.nils, V.bool false]]) g1)
  have r2 := k1.2 _ _ _ (by omega) (e0 (ex := [B.var 66 [V.fn f [] caps], B.var 71 [V.nils, V.bool false]]) g2)
  have hc1 := c1.lt
  generalize M.length + 1 = c at c1 hc1 ⊢
  clear k1 cd0 hgs hgo ha hb g0 g1 g2 e0
  obtain ⟨kc, q1, q2, q3⟩ := c1
  have a8 := add8 _ q3
  have w8 := wrapU ((body x).length + 8) (by omega)
  have e1 : ∀ {n : Nat} {b : B} {ex : Mem}, m1[n]? = some b → (m1 ++ ex)[n]? = some b := fun h => by rw [List.getElem?_append_left (List.getElem?_eq_some_iff.1 h).1]; exact h
  have l1 : 2 < m1.length := (List.getElem?_eq_some_iff.1 r2).1
  cases e : decide (8192 < (body x).length + 8)
  · have hle : (body x).length + 8 ≤ 8192 := by have := of_decide_eq_false e; omega
    have r0' : ∀ ex : Mem, (m1 ++ ex)[0]? = some (.var 37 (msC x)) := fun ex => e1 r0
    simp -implicitDefEqProofs only [sims.1, fx.1, keeps.1, tick_on, calleeK, faddrK, nonnil, Nat.reduceAdd, Nat.reduceEqDiff, Nat.reduceLT, q1, len_buf, a8, w8, at_app0, set_app0, ltN8, e, r0', m0_at, i8u8, bs34t, bu71s, List.append_assoc, List.length_append]
    have i8 := i8N_lt x.ty
    have cd1 : Cd (m1 ++ [B.var 24 [V.int .u64 (((body x).length + 8 : Nat) : Int)], rowB [1, i8N x.ty], B.var 71 [V.sl 1 (m1.length + 1) 0 2, V.bool false]]) (m1.length + 2) [1, i8N x.ty] := ⟨m1.length + 1, at_app 2, fun _ => at_app 1, by simp⟩
    have hlen24 : ((body x).length + 8) < 18446744073709551616 := by omega
    refine callD_w (snd31 (n := 2) cd1 (Tg.var (q := m1.length) at_app0 (by omega)) (by omega) (by omega)) en31 ?_ ?_
    rotate_left
    · intro m2 k2 c2
      simp [enc_len] at c2
    intro m2 k2 c2
    have hid : Tg (m1.length + 2) m2 (.ptr 0 0) (msC x ++ []) := by rw [List.append_nil]; exact Tg.var (k2.2 _ _ _ (by omega) (e1 r0)) (by omega)
    obtain ⟨_, t', hid'⟩ := hid.m1
    simp -implicitDefEqProofs only [sims.1, fx.1, keeps.1, tick_on, calleeK, faddrK, Nat.reduceEqDiff]
    refine callD_w (snd22 (x := x.id) c2 hid' hx.id) en22 ?_ ?_
    rotate_left
    · intro m3 k3 c3
      simp [enc_len] at c3
    intro m3 k3 c3
    have k23 := k2.trans k3
    have s1 := k23.2 _ _ _ (by omega) (e1 (ex := [B.var 24 [V.int .u64 (((body x).length + 8 : Nat) : Int)], rowB [1, i8N x.ty], B.var 71 [V.sl 1 (m1.length + 1) 0 2, V.bool false]]) r1)
    have s2 := k23.2 _ _ _ (by omega) (e1 (ex := [B.var 24 [V.int .u64 (((body x).length + 8 : Nat) : Int)], rowB [1, i8N x.ty], B.var 71 [V.sl 1 (m1.length + 1) 0 2, V.bool false]]) r2)
    have sc := k23.2 _ _ _ (by omega) (e1 (ex := [B.var 24 [V.int .u64 (((body x).length + 8 : Nat) : Int)], rowB [1, i8N x.ty], B.var 71 [V.sl 1 (m1.length + 1) 0 2, V.bool false]]) q1)
    have sr : body x ≠ [] → m3[kc]? = some (rowB (body x)) := fun hb => by
      have h1 := q2 hb
      have h2 := (List.getElem?_eq_some_iff.1 h1).1
      refine k23.1.2.1 kc _ (by omega) ?_ (e1 h1)
      rintro ⟨len, y, h3⟩
      rw [at_app 2] at h3
      cases h3
      omega
    have hh : [1, i8N x.ty] ++ enc ((body x).length + 8) 2 ++ enc x.id 4 = head x := rfl
    rw [hh] at c3
    obtain ⟨kh, p1, p2, p3⟩ := c3
    have hne : head x ≠ [] := by simp [head]
    have p2 := p2 hne
    rw [buf_cons hne] at p1
    have n1 : kh ≠ 1 := fun h => by rw [h, s1] at p2; cases p2
    have n2 : kh ≠ 2 := fun h => by rw [h, s2] at p2; cases p2
    have l3 : 2 < m3.length := (List.getElem?_eq_some_iff.1 s2).1
    have lw : (w1 m3 kh (head x) (body x)).length = m3.length + 1 := by simp [w1]
    have v1 : (w1 m3 kh (head x) (body x))[1]? = some (.var 34 [.nils]) := by rw [w1, List.getElem?_append_left (by simp; omega), List.getElem?_set_ne n1, s1]
    have v2 : (w2 m3 kh (head x) (body x))[2]? = some (.var 4 [.bool false]) := by rw [w2, List.getElem?_set_ne (by omega), w1, List.getElem?_append_left (by simp; omega), List.getElem?_set_ne n2, s2]
    simp -implicitDefEqProofs only [sims.1, tick_on]
    refine w_calls (JE m3 kh (head x) (body x)) [8, 9, 10] [.ptr (m1.length + 2) 0, .ptr (m1.length + 2) 0, .ptr (m1.length + 2) 0, .sl 1 kh 0 (head x).length, .ptr c 0, .ptr c 0, .ptr c 0, buf kc (body x), .sl 1 m3.length 0 (head x ++ body x).length, .tup [], .tup []] (by kernel_rfl) rfl ?_ ?_
    · refine okN_pure rfl rfl rfl (fun _ _ _ => rfl) ?_
      refine okN_pure rfl rfl rfl (fun _ _ _ => rfl) ?_
      refine okN_pure rfl rfl rfl (fun _ _ _ => by kernel_rfl) ?_
      refine okN_early 0 rfl rfl rfl rfl (fun i M' hi h => by
        show Option.map (Res.val · M') (loadV Try.prog M' 34 (.ptr (m1.length + 2) 0)) = _
        rw [JE0 h hi, ld34, loadK_ptr, p1]
        rfl) ?_
      refine okN_pure rfl rfl rfl (fun _ _ _ => rfl) ?_
      refine okN_pure rfl rfl rfl (fun _ _ _ => rfl) ?_
      refine okN_pure rfl rfl rfl (fun _ _ _ => by kernel_rfl) ?_
      refine okN_early 0 rfl rfl rfl rfl (fun i M' hi h => by
        show Option.map (Res.val · M') (loadV Try.prog M' 34 (.ptr c 0)) = _
        rw [JE0 h hi, ld34, loadK_ptr, sc]
        rfl) ?_
      refine okN_val rfl rfl rfl rfl (fun M' h => ⟨w1 m3 kh (head x) (body x), ?_, rfl⟩) ?_
      · cases h
        show Option.map (fun p => Res.val p.1 p.2) (appendA Try.prog 34 34 (.sl 1 kh 0 (head x).length) (buf kc (body x)) m3) = _
        rw [ap34w p2 sr (by omega)]
        rfl
      refine okN_skip rfl rfl rfl rfl (fun M' h => ⟨w2 m3 kh (head x) (body x), ?_, rfl⟩) ?_
      · cases h
        show Option.map Res.skip (storeV Try.prog 34 (w1 m3 kh (head x) (body x)) (.ptr 1 0) (.sl 1 m3.length 0 (head x ++ body x).length)) = _
        rw [st34, stO _ _ rfl v1]
        rfl
      refine okN_skip rfl rfl rfl rfl (fun M' h => ⟨w3 m3 kh (head x) (body x), ?_, rfl⟩) ?_
      · cases h
        show Option.map Res.skip (storeV Try.prog 4 (w2 m3 kh (head x) (body x)) (.ptr 2 0) (.bool true)) = _
        rw [st4, stO _ _ rfl v2]
        rfl
      exact okN_nil
    · intro M' h
      cases h
      simp -implicitDefEqProofs only [sims.1, keeps.1, tick_on, Nat.reduceEqDiff, putAll]
      refine retW (u := .sl 1 m3.length 0 (head x ++ body x).length) (v := .bool true) ?_ ?_ rfl rfl (.inl ⟨?_, _, m3.length, rfl, ?_⟩)
      · show (w3 m3 kh (head x) (body x))[1]? = _
        rw [w3, List.getElem?_set_ne (by omega), w2, List.getElem?_set_self (by omega)]
      · show (w3 m3 kh (head x) (body x))[2]? = _
        rw [w3, List.getElem?_set_self (by rw [w2, List.length_set]; omega)]
      · unfold fits
        simpa using hle
      · show (w3 m3 kh (head x) (body x))[m3.length]? = _
        rw [w3, List.getElem?_set_ne (by omega), w2, List.getElem?_set_ne (by omega), w1, List.getElem?_append_right (by simp)]
        simp [whole]
  · have h8 := of_decide_eq_true e
    have ev : ∀ env, evO env (.const (.slice none 0 0)) = .nils := fun _ => rfl
    have z1 : ∀ ex : Mem, storeK 1 (m1 ++ ex) (.ptr 1 0) .nils = some ((m1 ++ ex).set 1 (.var 34 [.nils])) := fun ex => stO _ _ rfl (e1 r1)
    have z2 : ∀ ex : Mem, storeK 1 ((m1 ++ ex).set 1 (.var 34 [.nils])) (.ptr 2 0) (.bool false) = some (((m1 ++ ex).set 1 (.var 34 [.nils])).set 2 (.var 4 [.bool false])) := fun ex => stO _ _ rfl (by rw [List.getElem?_set_ne (by omega)]; exact e1 r2)
    simp -implicitDefEqProofs only [sims.1, fx.1, keeps.1, tick_on, faddrK, nonnil, Nat.reduceEqDiff, Nat.reduceLT, q1, len_buf, a8, w8, at_app0, set_app0, ltN8, e, ev, z1, z2]
    refine retW (u := .nils) (v := .bool false) ?_ ?_ rfl rfl (.inr ⟨?_, _, rfl⟩)
    · rw [List.getElem?_set_ne (by omega), List.getElem?_set_self (by simp; omega)]
    · rw [List.getElem?_set_self (by simp; omega)]
    · unfold fits
      simp only [decide_eq_false_iff_not]
      omega
end Go.Proofs.Ytjjenpdjmcmgbaa
