/- Each Type's way, written. No condition. -/
import Derived.Test.YtjjenpdjmcmgbaaDXe
namespace Go.Proofs.Ytjjenpdjmcmgbaa
open Go Ab
set_option linter.unusedSimpArgs false
set_option linter.unusedVariables false
set_option maxRecDepth 20000
theorem ms_len (x : Ms) (t : List V) : 36 ≤ (msC x ++ t).length := by simp [msC, ruC, mC, cl]; omega
section
variable {m : Mem} {c : Nat} {p : V} {t : List V} {x : Ms}
theorem Tg.m0 (h : Tg c m p (msC x ++ t)) : faddrK 0 p = some (pAdd 0 p) ∧ ∃ t', Tg c m (pAdd 0 p) (.int .i8 x.ty :: t') := by obtain ⟨f, g⟩ := h.fa (o := 0) (by have := ms_len x t; omega); exact ⟨f, _, g⟩
theorem Tg.m1 (h : Tg c m p (msC x ++ t)) : faddrK 1 p = some (pAdd 1 p) ∧ ∃ t', Tg c m (pAdd 1 p) (.int .u32 (x.id : Int) :: t') := by obtain ⟨f, g⟩ := h.fa (o := 1) (by have := ms_len x t; omega); exact ⟨f, _, g⟩
theorem Tg.m2 (h : Tg c m p (msC x ++ t)) : faddrK 2 p = some (pAdd 2 p) ∧ ∃ t', Tg c m (pAdd 2 p) (.int .i8 x.dd :: t') := by obtain ⟨f, g⟩ := h.fa (o := 2) (by have := ms_len x t; omega); exact ⟨f, _, g⟩
theorem Tg.m3 (h : Tg c m p (msC x ++ t)) : faddrK 3 p = some (pAdd 3 p) ∧ ∃ t', Tg c m (pAdd 3 p) (ruC x.r ++ t') := by obtain ⟨f, g⟩ := h.fa (o := 3) (by have := ms_len x t; omega); exact ⟨f, _, g⟩
theorem Tg.m28 (h : Tg c m p (msC x ++ t)) : faddrK 28 p = some (pAdd 28 p) ∧ ∃ t', Tg c m (pAdd 28 p) (.int .u16 (x.port : Int) :: t') := by obtain ⟨f, g⟩ := h.fa (o := 28) (by have := ms_len x t; omega); exact ⟨f, _, g⟩
theorem Tg.m29 (h : Tg c m p (msC x ++ t)) : faddrK 29 p = some (pAdd 29 p) ∧ ∃ t', Tg c m (pAdd 29 p) (.bool x.up :: t') := by obtain ⟨f, g⟩ := h.fa (o := 29) (by have := ms_len x t; omega); exact ⟨f, _, g⟩
theorem Tg.m30 (h : Tg c m p (msC x ++ t)) : faddrK 30 p = some (pAdd 30 p) ∧ ∃ t', Tg c m (pAdd 30 p) (.int .u16 (x.sw : Int) :: t') := by obtain ⟨f, g⟩ := h.fa (o := 30) (by have := ms_len x t; omega); exact ⟨f, _, g⟩
theorem Tg.m31 (h : Tg c m p (msC x ++ t)) : faddrK 31 p = some (pAdd 31 p) ∧ ∃ t', Tg c m (pAdd 31 p) (poV x.ports :: t') := by obtain ⟨f, g⟩ := h.fa (o := 31) (by have := ms_len x t; omega); exact ⟨f, _, g⟩
theorem Tg.m32 (h : Tg c m p (msC x ++ t)) : faddrK 32 p = some (pAdd 32 p) ∧ ∃ t', Tg c m (pAdd 32 p) (poV x.edge :: t') := by obtain ⟨f, g⟩ := h.fa (o := 32) (by have := ms_len x t; omega); exact ⟨f, _, g⟩
theorem Tg.m33 (h : Tg c m p (msC x ++ t)) : faddrK 33 p = some (pAdd 33 p) ∧ ∃ t', Tg c m (pAdd 33 p) (byV x.frame :: t') := by obtain ⟨f, g⟩ := h.fa (o := 33) (by have := ms_len x t; omega); exact ⟨f, _, g⟩
theorem Tg.m34 (h : Tg c m p (msC x ++ t)) : faddrK 34 p = some (pAdd 34 p) ∧ ∃ t', Tg c m (pAdd 34 p) (hesV x.helds :: t') := by obtain ⟨f, g⟩ := h.fa (o := 34) (by have := ms_len x t; omega); exact ⟨f, _, g⟩
theorem Tg.m35 (h : Tg c m p (msC x ++ t)) : faddrK 35 p = some (pAdd 35 p) ∧ ∃ t', Tg c m (pAdd 35 p) (.int .u16 (x.code : Int) :: t') := by obtain ⟨f, g⟩ := h.fa (o := 35) (by have := ms_len x t; omega); exact ⟨f, _, g⟩
end
theorem snd58 {m : Mem} {c : Nat} {p : V} {t : List V} {l : List Nat} {b : Bool} (hc : Cd m c l) (hp : Tg c m p (.bool b :: t)) : Snd Try.prog 58 [.ptr c 0, p] m (WQ c m l (enc (b01 b) 1)) := by
  refine Snd_of_W fol rfl rfl (by kernel_rfl) (by kernel_rfl) ?_
  have hnn := hp.nn
  simp only [nonnil] at hnn
  have hlt := hc.lt
  have hs : ∀ (b : B), (m ++ [b])[m.length]? = some b := fun b => by simp
  have hset : ∀ b b' : B, (m ++ [b]).set m.length b' = m ++ [b'] := fun b b' => by simp
  have ld : ∀ ex, loadK false 1 (m ++ ex) p = some (.bool b) := fun ex => (hp.keep (Kv.app hc ex)).load1
  cases b
  · simp -implicitDefEqProofs only [sims.1, fx.1, keeps.1, tick_on, calleeK, nonnil, Nat.reduceEqDiff, Nat.reduceLT, hs, hset, hnn, ld]
    refine callD_w (snd49 (x := 0) (hc.app _) (Tg.var (q := m.length) (ty := 5) (l := [.int .u8 (((0 : Nat) : Int))]) (hs _) (by omega)) (by decide)) en49 ?_ ?_
    · intro m1 k1 c1
      have q1 := k1.2 _ _ _ (by omega) (hs _)
      have hk := (Kv.app hc _).trans k1
      have st := (hp.keep hk).stillb
      have d1 : decide ((1 : Int) < 0) = false := rfl
      have d2 : decide ((1 : Int) < 1) = false := rfl
      have d3 : decide ((0 : Int) = 1) = false := rfl
      have d4 : decide ((1 : Int) = 1) = true := rfl
      simp -implicitDefEqProofs only [sims.1, fx.1, keeps.1, tick_on, nonnil, Nat.reduceEqDiff, Int.reduceEq, Int.reduceLT, q1, hnn, st]
      exact .inl ⟨m1, rfl, hk, c1⟩
    · intro m1 k1 c1
      exact .inr ⟨m1, rfl, (Kv.app hc _).trans k1, c1⟩
  · simp -implicitDefEqProofs only [sims.1, fx.1, keeps.1, tick_on, calleeK, nonnil, Nat.reduceEqDiff, Nat.reduceLT, hs, hset, hnn, ld]
    refine callD_w (snd49 (x := 1) (hc.app _) (Tg.var (q := m.length) (ty := 5) (l := [.int .u8 (((1 : Nat) : Int))]) (hs _) (by omega)) (by decide)) en49 ?_ ?_
    · intro m1 k1 c1
      have q1 := k1.2 _ _ _ (by omega) (hs _)
      have hk := (Kv.app hc _).trans k1
      have st := (hp.keep hk).stillb
      have d1 : decide ((1 : Int) < 0) = false := rfl
      have d2 : decide ((1 : Int) < 1) = false := rfl
      have d3 : decide ((0 : Int) = 1) = false := rfl
      have d4 : decide ((1 : Int) = 1) = true := rfl
      simp -implicitDefEqProofs only [sims.1, fx.1, keeps.1, tick_on, nonnil, Nat.reduceEqDiff, Int.reduceLT, q1, hnn, st]
      exact .inl ⟨m1, rfl, hk, c1⟩
    · intro m1 k1 c1
      exact .inr ⟨m1, rfl, (Kv.app hc _).trans k1, c1⟩
theorem snd41 {m : Mem} {c : Nat} {p : V} {t : List V} {l : List Nat} {x : Ms} (hx : wfM x) (hc : Cd m c l) (hp : Tg c m p (msC x ++ t)) : Snd Try.prog 41 [.ptr c 0, p] m (WQ c m l (enc x.port 2)) := by
  refine Snd_of_W fol rfl rfl (by kernel_rfl) (by kernel_rfl) ?_
  have hnn := hp.nn
  simp only [nonnil] at hnn
  obtain ⟨f0, _, t0⟩ := hp.m28
  simp only [faddrK] at f0
  simp -implicitDefEqProofs only [sims.1, fx.1, keeps.1, tick_on, calleeK, faddrK, nonnil, Nat.reduceEqDiff, hnn, f0]
  refine callD_w (snd42 hc t0 hx.port) en42 ?_ ?_
  · intro m1 k1 c1
    simp -implicitDefEqProofs only [sims.1, tick_on]
    exact .inl ⟨m1, rfl, k1, c1⟩
  · intro m1 k1 c1
    exact .inr ⟨m1, rfl, k1, c1⟩
theorem snd59 {m : Mem} {c : Nat} {p : V} {t : List V} {l : List Nat} {x : Ms} (hx : wfM x) (hc : Cd m c l) (hp : Tg c m p (msC x ++ t)) : Snd Try.prog 59 [.ptr c 0, p] m (WQ c m l (enc x.code 2)) := by
  refine Snd_of_W fol rfl rfl (by kernel_rfl) (by kernel_rfl) ?_
  have hnn := hp.nn
  simp only [nonnil] at hnn
  obtain ⟨f0, _, t0⟩ := hp.m35
  simp only [faddrK] at f0
  simp -implicitDefEqProofs only [sims.1, fx.1, keeps.1, tick_on, calleeK, faddrK, nonnil, Nat.reduceEqDiff, hnn, f0]
  refine callD_w (snd42 hc t0 hx.code) en42 ?_ ?_
  · intro m1 k1 c1
    simp -implicitDefEqProofs only [sims.1, tick_on]
    exact .inl ⟨m1, rfl, k1, c1⟩
  · intro m1 k1 c1
    exact .inr ⟨m1, rfl, k1, c1⟩
theorem snd45 {m : Mem} {c k : Nat} {p : V} {t : List V} {l : List Nat} {x : Nat} (hx : x < 65536) (hc : Cd m c l) (hk : m[k]? = some (.var 69 [.ptr c 0])) (hp : Tg c m p (poC x ++ t)) : Snd Try.prog 45 [p, .ptr k 0] m (WQ c m l (enc x 2)) := by
  refine Snd_of_W fol rfl rfl (by kernel_rfl) (by kernel_rfl) ?_
  simp -implicitDefEqProofs only [sims.1, fx.1, keeps.1, tick_on, calleeK, Nat.reduceEqDiff, hk]
  refine callD_w (snd42 hc hp hx) en42 ?_ ?_
  · intro m1 k1 c1
    simp -implicitDefEqProofs only [sims.1, tick_on]
    exact .inl ⟨m1, rfl, k1, c1⟩
  · intro m1 k1 c1
    exact .inr ⟨m1, rfl, k1, c1⟩
theorem snd48 {m : Mem} {c k : Nat} {p : V} {t : List V} {l : List Nat} {x : Nat} (hx : x < 256) (hc : Cd m c l) (hk : m[k]? = some (.var 69 [.ptr c 0])) (hp : Tg c m p (byC x ++ t)) : Snd Try.prog 48 [p, .ptr k 0] m (WQ c m l (enc x 1)) := by
  refine Snd_of_W fol rfl rfl (by kernel_rfl) (by kernel_rfl) ?_
  simp -implicitDefEqProofs only [sims.1, fx.1, keeps.1, tick_on, calleeK, Nat.reduceEqDiff, hk]
  refine callD_w (snd49 hc hp hx) en49 ?_ ?_
  · intro m1 k1 c1
    simp -implicitDefEqProofs only [sims.1, tick_on]
    exact .inl ⟨m1, rfl, k1, c1⟩
  · intro m1 k1 c1
    exact .inr ⟨m1, rfl, k1, c1⟩
theorem enc_pos (x n : Nat) (h : 1 ≤ n) : 1 ≤ (enc x n).length := by rw [enc_len]; exact h
theorem snd43 {m : Mem} {c : Nat} {p : V} {t : List V} {l : List Nat} {x : List Nat} (hx : x.length < lim ∧ ∀ y ∈ x, y < 65536) (hc : Cd m c l) (hp : Tg c m p (poV x :: t)) : Snd Try.prog 43 [.ptr c 0, p] m (WQ c m l (encP x)) := by
  refine Snd_of_W fol rfl rfl (by kernel_rfl) (by kernel_rfl) ?_
  have nb : newV 69 m (.ptr c 0) = some (.ptr m.length 0, m ++ [.var 69 [.ptr c 0]]) := newV_one rfl
  have hlt := hc.lt
  have hs : ∀ (b : B), (m ++ [b])[m.length]? = some b := fun b => by simp
  simp -implicitDefEqProofs only [sims.1, fx.1, keeps.1, tick_on, calleeK, Nat.reduceEqDiff, nb, hs]
  refine callD_w (snd44 x poC (fun y => enc y 2) (hc.app _) (hp.keep (Kv.app hc _)) en45 (fun m' l' a ha k1 c1 => snd45 (t := []) (hx.2 a ha) c1 (k1.2 _ _ _ (by omega) (hs _)) (.inl rfl)) (fun a _ => enc_pos a 2 (by omega)) hx.1) en44 ?_ ?_
  · intro m1 k1 c1
    simp -implicitDefEqProofs only [sims.1, tick_on]
    exact .inl ⟨m1, rfl, (Kv.app hc _).trans k1, c1⟩
  · intro m1 k1 c1
    exact .inr ⟨m1, rfl, (Kv.app hc _).trans k1, c1⟩
theorem rule_parts {m : Mem} {c : Nat} {p : V} {t : List V} {l : List Nat} {x : Ms} (hx : wfM x) (hrk : rkOK x.r) (hc : Cd m c l) (hp : Tg c m p (msC x ++ t)) : Snd Try.prog 51 [.ptr c 0, p] m (WQ c m l (enc (i8N x.dd) 1 ++ encR x.r)) := by
  refine Snd_of_W fol rfl rfl (by kernel_rfl) (by kernel_rfl) ?_
  have hnn := hp.nn
  simp only [nonnil] at hnn
  obtain ⟨f0, _, t0⟩ := hp.m2
  obtain ⟨f1, _, t1⟩ := hp.m3
  simp only [faddrK] at f0 f1
  simp -implicitDefEqProofs only [sims.1, fx.1, keeps.1, tick_on, calleeK, faddrK, nonnil, Nat.reduceEqDiff, hnn, f0]
  refine callD_w (snd52 hc t0 hx.dd.1 hx.dd.2) en52 ?_ ?_
  · intro m1 k1 c1
    simp -implicitDefEqProofs only [sims.1, fx.1, keeps.1, tick_on, calleeK, faddrK, nonnil, Nat.reduceEqDiff, hnn, f1]
    refine callD_w (snd53 hx.r hrk c1 (t1.keep k1)) en53 ?_ ?_
    · intro m2 k2 c2
      simp -implicitDefEqProofs only [sims.1, tick_on]
      exact .inl ⟨m2, rfl, k1.trans k2, by simpa only [List.append_assoc] using c2⟩
    · intro m2 k2 c2
      exact .inr ⟨m2, rfl, k1.trans k2, by simpa only [List.append_assoc] using c2⟩
  · intro m1 k1 c1
    refine .inr ⟨m1, rfl, k1, ?_⟩
    simp only [List.length_append] at c1 ⊢
    omega
theorem snd57 {m : Mem} {c k : Nat} {p : V} {t : List V} {l : List Nat} {x : Ms} (hx : wfM x) (hc : Cd m c l) (hk : m[k]? = some (.var 64 [.fn 41 [] []])) (hp : Tg c m p (msC x ++ t)) : Snd Try.prog 57 [.ptr c 0, p, .ptr k 0] m (WQ c m l (enc x.port 2 ++ enc (b01 x.up) 1)) := by
  refine Snd_of_W fol rfl rfl (by kernel_rfl) (by kernel_rfl) ?_
  have hnn := hp.nn
  simp only [nonnil] at hnn
  obtain ⟨f0, _, t0⟩ := hp.m29
  simp only [faddrK] at f0
  simp -implicitDefEqProofs only [sims.1, fx.1, keeps.1, tick_on, calleeK, Nat.reduceEqDiff, hk]
  refine callD_w (snd41 hx hc hp) en41 ?_ ?_
  · intro m1 k1 c1
    simp -implicitDefEqProofs only [sims.1, fx.1, keeps.1, tick_on, calleeK, faddrK, nonnil, Nat.reduceEqDiff, hnn, f0]
    refine callD_w (snd58 c1 (t0.keep k1)) en58 ?_ ?_
    · intro m2 k2 c2
      simp -implicitDefEqProofs only [sims.1, tick_on]
      exact .inl ⟨m2, rfl, k1.trans k2, by simpa only [List.append_assoc] using c2⟩
    · intro m2 k2 c2
      exact .inr ⟨m2, rfl, k1.trans k2, by simpa only [List.append_assoc] using c2⟩
  · intro m1 k1 c1
    refine .inr ⟨m1, rfl, k1, ?_⟩
    simp only [List.length_append] at c1 ⊢
    omega
theorem snd60 {m : Mem} {c : Nat} {p : V} {l : List Nat} (hc : Cd m c l) : Snd Try.prog 60 [.ptr c 0, p] m (WQ c m l []) := by
  refine Snd_of_W fol rfl rfl (by kernel_rfl) (by kernel_rfl) ?_
  simp -implicitDefEqProofs only [sims.1, tick_on]
  exact .inl ⟨m, rfl, Kv.refl _ _, by simpa using hc⟩
set_option maxHeartbeats 1000000 in
theorem snd46 {m : Mem} {c k : Nat} {p : V} {t : List V} {l : List Nat} {x : Ms} (hx : wfM x) (hc : Cd m c l) (hk : m[k]? = some (.var 64 [.fn 41 [] []])) (hp : Tg c m p (msC x ++ t)) : Snd Try.prog 46 [.ptr c 0, p, .ptr k 0] m (WQ c m l (enc x.port 2 ++ encB x.frame)) := by
  refine Snd_of_W fol rfl rfl (by kernel_rfl) (by kernel_rfl) ?_
  have hnn := hp.nn
  have nb : newV 69 m (.ptr c 0) = some (.ptr m.length 0, m ++ [.var 69 [.ptr c 0]]) := newV_one rfl
  have hlt := hc.lt
  have hs : ∀ (b : B), (m ++ [b])[m.length]? = some b := fun b => by simp
  have hka : ∀ b : B, (m ++ [b])[k]? = some (.var 64 [.fn 41 [] []]) := fun b => by rw [List.getElem?_append_left (List.getElem?_eq_some_iff.1 hk).1]; exact hk
  obtain ⟨f0, _, t0⟩ := hp.m33
  simp -implicitDefEqProofs only [sims.1, fx.1, keeps.1, tick_on, calleeK, Nat.reduceEqDiff, nb, hs, hka]
  refine callD_w (snd41 hx (hc.app _) (hp.keep (Kv.app hc _))) en41 ?_ ?_
  · intro m1 k1 c1
    have hk1 := (Kv.app hc _).trans k1
    have q1 := k1.2 _ _ _ (by omega) (hs _)
    simp -implicitDefEqProofs only [sims.1, tick_on]
    refine w_callsP (JW m1 c (l ++ enc x.port 2) (encB x.frame)) (JpW m1 c (l ++ enc x.port 2) (encB x.frame)) [5] [.ptr c 0, p, p, pAdd 33 p, .fn 48 [] [.ptr m.length 0], .tup []] (by kernel_rfl) rfl ?_ ?_ ?_
    · refine okN_early 0 rfl rfl rfl rfl (fun i M' hi h => by
        show Option.map (Res.val · M') (loadV Try.prog M' 69 (.ptr m.length 0)) = _
        rw [JW0 h hi, ld69, loadK_ptr, q1]
        rfl) ?_
      refine okN_pure rfl rfl rfl (fun _ _ _ => rfl) ?_
      refine okN_pure rfl rfl rfl (fun _ M' _ => by
        show (bif nonnil p then some (Res.val p M') else none) = _
        rw [hnn]
        rfl) ?_
      refine okN_pure rfl rfl rfl (fun _ M' _ => by
        show Option.map (Res.val · M') (faddrV Try.prog 37 9 p) = _
        rw [fa37_9, f0]
        rfl) ?_
      refine okN_pure rfl rfl rfl (fun _ _ _ => rfl) ?_
      refine okN_call rfl (show calleeV (evO _) _ = some (47, [.ptr c 0, pAdd 33 p, .fn 48 [] [.ptr m.length 0]]) by kernel_rfl) rfl rfl (fun m' h => callD_j (snd47 x.frame byC (fun y => enc y 1) c1 (t0.keep hk1) en48 (fun m' l' a ha k2 c2 => snd48 (t := []) (hx.frame.2 a ha) c2 (k2.2 _ _ _ (by omega) q1) (.inl rfl)) (fun a _ => enc_pos a 1 (by omega)) hx.frame.1) en47 h) ?_
      exact okN_nil
    · rintro m2 ⟨k2, c2⟩
      simp -implicitDefEqProofs only [sims.1, tick_on, putAll]
      exact .inl ⟨m2, rfl, hk1.trans k2, by simpa only [List.append_assoc] using c2⟩
    · rintro _ m2 ⟨rfl, k2, c2⟩
      exact .inr ⟨m2, rfl, hk1.trans k2, by simpa only [List.append_assoc] using c2⟩
  · intro m1 k1 c1
    refine .inr ⟨m1, rfl, (Kv.app hc _).trans k1, ?_⟩
    simp only [List.length_append] at c1 ⊢
    omega
set_option maxHeartbeats 1000000 in
theorem snd54 {m : Mem} {c k : Nat} {p : V} {t : List V} {l : List Nat} {x : Ms} (hx : wfM x) (hrk : ∀ h ∈ x.helds, rkOK h.r) (hc : Cd m c l) (hk : m[k]? = some (.var 64 [.fn 41 [] []])) (hp : Tg c m p (msC x ++ t)) : Snd Try.prog 54 [.ptr c 0, p, .ptr k 0] m (WQ c m l (enc x.port 2 ++ encHs x.helds)) := by
  refine Snd_of_W fol rfl rfl (by kernel_rfl) (by kernel_rfl) ?_
  have hnn := hp.nn
  have nb : newV 69 m (.ptr c 0) = some (.ptr m.length 0, m ++ [.var 69 [.ptr c 0]]) := newV_one rfl
  have hlt := hc.lt
  have hs : ∀ (b : B), (m ++ [b])[m.length]? = some b := fun b => by simp
  have hka : ∀ b : B, (m ++ [b])[k]? = some (.var 64 [.fn 41 [] []]) := fun b => by rw [List.getElem?_append_left (List.getElem?_eq_some_iff.1 hk).1]; exact hk
  obtain ⟨f0, _, t0⟩ := hp.m34
  simp -implicitDefEqProofs only [sims.1, fx.1, keeps.1, tick_on, calleeK, Nat.reduceEqDiff, nb, hs, hka]
  refine callD_w (snd41 hx (hc.app _) (hp.keep (Kv.app hc _))) en41 ?_ ?_
  · intro m1 k1 c1
    have hk1 := (Kv.app hc _).trans k1
    have q1 := k1.2 _ _ _ (by omega) (hs _)
    simp -implicitDefEqProofs only [sims.1, tick_on]
    refine w_callsP (JW m1 c (l ++ enc x.port 2) (encHs x.helds)) (JpW m1 c (l ++ enc x.port 2) (encHs x.helds)) [5] [.ptr c 0, p, p, pAdd 34 p, .fn 56 [] [.ptr m.length 0], .tup []] (by kernel_rfl) rfl ?_ ?_ ?_
    · refine okN_early 0 rfl rfl rfl rfl (fun i M' hi h => by
        show Option.map (Res.val · M') (loadV Try.prog M' 69 (.ptr m.length 0)) = _
        rw [JW0 h hi, ld69, loadK_ptr, q1]
        rfl) ?_
      refine okN_pure rfl rfl rfl (fun _ _ _ => rfl) ?_
      refine okN_pure rfl rfl rfl (fun _ M' _ => by
        show (bif nonnil p then some (Res.val p M') else none) = _
        rw [hnn]
        rfl) ?_
      refine okN_pure rfl rfl rfl (fun _ M' _ => by
        show Option.map (Res.val · M') (faddrV Try.prog 37 10 p) = _
        rw [fa37_10, f0]
        rfl) ?_
      refine okN_pure rfl rfl rfl (fun _ _ _ => rfl) ?_
      refine okN_call rfl (show calleeV (evO _) _ = some (55, [.ptr c 0, pAdd 34 p, .fn 56 [] [.ptr m.length 0]]) by kernel_rfl) rfl rfl (fun m' h => callD_j (snd55 x.helds heC encH c1 (t0.keep hk1) en56 (fun m' l' a ha k2 c2 => snd56 (t := []) (hx.helds.2 a ha) (hrk a ha) c2 (k2.2 _ _ _ (by omega) q1) (.inl (by rw [List.append_nil]))) (fun a _ => encH_pos a) hx.helds.1) en55 h) ?_
      exact okN_nil
    · rintro m2 ⟨k2, c2⟩
      simp -implicitDefEqProofs only [sims.1, tick_on, putAll]
      exact .inl ⟨m2, rfl, hk1.trans k2, by simpa only [List.append_assoc] using c2⟩
    · rintro _ m2 ⟨rfl, k2, c2⟩
      exact .inr ⟨m2, rfl, hk1.trans k2, by simpa only [List.append_assoc] using c2⟩
  · intro m1 k1 c1
    refine .inr ⟨m1, rfl, (Kv.app hc _).trans k1, ?_⟩
    simp only [List.length_append] at c1 ⊢
    omega
set_option maxHeartbeats 1000000 in
theorem snd50 {m : Mem} {c k : Nat} {p : V} {t : List V} {l : List Nat} {x : Ms} (hx : wfM x) (hc : Cd m c l) (hk : m[k]? = some (.var 105 [.fn 43 [] []])) (hp : Tg c m p (msC x ++ t)) : Snd Try.prog 50 [.ptr c 0, p, .ptr k 0] m (WQ c m l (enc x.sw 2 ++ (encP x.ports ++ encP x.edge))) := by
  refine Snd_of_W fol rfl rfl (by kernel_rfl) (by kernel_rfl) ?_
  have hkc := hc.ne hk (by decide)
  have hnn := hp.nn
  have hnn' := hnn
  simp only [nonnil] at hnn'
  obtain ⟨f0, _, t0⟩ := hp.m30
  obtain ⟨f1, _, t1⟩ := hp.m31
  obtain ⟨f2, _, t2⟩ := hp.m32
  simp only [faddrK] at f0
  simp -implicitDefEqProofs only [sims.1, fx.1, keeps.1, tick_on, calleeK, faddrK, nonnil, Nat.reduceEqDiff, hnn', f0]
  refine callD_w (snd42 hc t0 hx.sw) en42 ?_ ?_
  · intro m1 k1 c1
    have q1 := k1.2 _ _ _ hkc hk
    simp -implicitDefEqProofs only [sims.1, tick_on]
    refine w_callsP (JW m1 c (l ++ enc x.sw 2) (encP x.ports)) (JpW m1 c (l ++ enc x.sw 2) (encP x.ports)) [5] [.fn 43 [] [], .ptr c 0, p, p, pAdd 31 p, .tup []] (by kernel_rfl) rfl ?_ ?_ ?_
    · refine okN_early 0 rfl rfl rfl rfl (fun i M' hi h => by
        show Option.map (Res.val · M') (loadV Try.prog M' 105 (.ptr k 0)) = _
        rw [JW0 h hi, ld105, loadK_ptr, q1]
        rfl) ?_
      refine okN_pure rfl rfl rfl (fun _ _ _ => rfl) ?_
      refine okN_pure rfl rfl rfl (fun _ _ _ => rfl) ?_
      refine okN_pure rfl rfl rfl (fun _ M' _ => by
        show (bif nonnil p then some (Res.val p M') else none) = _
        rw [hnn]
        rfl) ?_
      refine okN_pure rfl rfl rfl (fun _ M' _ => by
        show Option.map (Res.val · M') (faddrV Try.prog 37 7 p) = _
        rw [fa37_7, f1]
        rfl) ?_
      refine okN_call rfl (show calleeV (evO _) _ = some (43, [.ptr c 0, pAdd 31 p]) by kernel_rfl) rfl rfl (fun m' h => callD_j (snd43 hx.ports c1 (t1.keep k1)) en43 h) ?_
      exact okN_nil
    · rintro m2 ⟨k2, c2⟩
      have q2 := k2.2 _ _ _ hkc q1
      simp -implicitDefEqProofs only [sims.1, tick_on, putAll]
      refine w_callsP (JW m2 c (l ++ enc x.sw 2 ++ encP x.ports) (encP x.edge)) (JpW m2 c (l ++ enc x.sw 2 ++ encP x.ports) (encP x.edge)) [5] [.fn 43 [] [], .ptr c 0, p, p, pAdd 32 p, .tup []] (by kernel_rfl) rfl ?_ ?_ ?_
      · refine okN_early 0 rfl rfl rfl rfl (fun i M' hi h => by
          show Option.map (Res.val · M') (loadV Try.prog M' 105 (.ptr k 0)) = _
          rw [JW0 h hi, ld105, loadK_ptr, q2]
          rfl) ?_
        refine okN_pure rfl rfl rfl (fun _ _ _ => rfl) ?_
        refine okN_pure rfl rfl rfl (fun _ _ _ => rfl) ?_
        refine okN_pure rfl rfl rfl (fun _ M' _ => by
          show (bif nonnil p then some (Res.val p M') else none) = _
          rw [hnn]
          rfl) ?_
        refine okN_pure rfl rfl rfl (fun _ M' _ => by
          show Option.map (Res.val · M') (faddrV Try.prog 37 8 p) = _
          rw [fa37_8, f2]
          rfl) ?_
        refine okN_call rfl (show calleeV (evO _) _ = some (43, [.ptr c 0, pAdd 32 p]) by kernel_rfl) rfl rfl (fun m' h => callD_j (snd43 hx.edge c2 (t2.keep (k1.trans k2))) en43 h) ?_
        exact okN_nil
      · rintro m3 ⟨k3, c3⟩
        simp -implicitDefEqProofs only [sims.1, tick_on, putAll]
        exact .inl ⟨m3, rfl, k1.trans (k2.trans k3), by simpa only [List.append_assoc] using c3⟩
      · rintro _ m3 ⟨rfl, k3, c3⟩
        exact .inr ⟨m3, rfl, k1.trans (k2.trans k3), by simpa only [List.append_assoc] using c3⟩
    · rintro _ m2 ⟨rfl, k2, c2⟩
      refine .inr ⟨m2, rfl, k1.trans k2, ?_⟩
      simp only [List.length_append] at c2 ⊢
      omega
  · intro m1 k1 c1
    refine .inr ⟨m1, rfl, k1, ?_⟩
    simp only [List.length_append] at c1 ⊢
    omega
end Go.Proofs.Ytjjenpdjmcmgbaa
