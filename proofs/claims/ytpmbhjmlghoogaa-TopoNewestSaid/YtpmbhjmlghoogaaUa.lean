/- Calls that hand back new rows nobody else knows; calls that leave memory as it was, in greater memory. No condition. -/
import Derived.Test.YtpmbhjmlghoogaaNo
namespace Go.Proofs.Ytpmbhjmlghoogaa
open Go Ab
set_option linter.unusedSimpArgs false
set_option linter.unusedVariables false
set_option maxRecDepth 20000

/-- What is new behind a call is let go; a new row that is handed back is not written again. -/
theorem Snd_dropI {P : Program} {f : FuncId} {vs : List V} {mv : Mem} {sz : Nat} {es : List (List V)} (hc : closedB (List.range mv.length) mv = true) (hes : es.all bareL = true)
    (h : Snd P f vs mv fun r => ∃ new k ty, r = .ret (.sl sz (mv.length + k) 0 es.length) (mv ++ new) ∧ new[k]? = some (.row ty sz es)) : Snd P f vs mv fun r => r = .ret (.isl sz es) mv := by
  intro ρ I w xs hr hl hrt
  refine (h ρ I w xs hr hl hrt).mono ?_
  rintro e w' ⟨r, ⟨new, kk, ty, rfl, hk⟩, x, ρ', I', rfl, p1, p2, p3⟩
  obtain ⟨c1, c2, c3⟩ := closed_parts hc
  have hget : ∀ k, k < mv.length → (mv ++ new).getD k .dead = mv.getD k .dead := fun k hk => by
    simp only [List.getD, List.getElem?_append_left hk]
  have hc' : closedB (List.range mv.length) (mv ++ new) = true := by
    unfold closedB at hc ⊢
    simp only [Bool.and_eq_true, List.all_eq_true, Nat.blt_eq] at hc ⊢
    refine ⟨hc.1, fun k hk => by have := hc.2.1 k hk; simp; omega, fun k hk => ?_⟩
    rw [hget k (List.mem_range.1 hk)]
    exact hc.2.2 k hk
  have hv : view (List.range mv.length) (mv ++ new) = mv := by
    apply List.ext_getElem?
    intro k
    unfold view
    rw [List.getElem?_map]
    rcases Nat.lt_or_ge k mv.length with hk | hk
    · rw [List.getElem?_range hk, Option.map_some, hget k hk, List.getElem?_eq_getElem hk]
      congr 1
      have e1 : mv.getD k .dead = mv[k] := by simp [List.getD, hk]
      rw [e1]
      refine renB_id (D := fun j => (List.range mv.length).contains j) (fun j hj => idx_range (List.mem_range.1 (by simpa using hj))) ?_
      have := c3 k (List.mem_range.2 hk)
      rwa [e1] at this
    · rw [List.getElem?_eq_none (by simpa using hk), List.getElem?_eq_none hk]
      rfl
  have hvw := p1.view hc'
  rw [show (CR.ret (V.sl sz (mv.length + kk) 0 es.length) (mv ++ new)).mem = mv ++ new from rfl, hv] at hvw
  have hrho : ∀ k, k < mv.length → ρ' ((List.range mv.length).getD k 0) = ρ k := fun k hk => by
    rw [getD_range hk]
    exact p2.rho k hk
  have hnew : (mv ++ new)[mv.length + kk]? = some (.row ty sz es) := by rw [List.getElem?_append_right (by omega)]; simpa using hk
  have hlvN : live (mv ++ new) (mv.length + kk) := ⟨_, hnew, rfl⟩
  have liveA : ∀ n, live mv n → live (mv ++ new) n := fun n ⟨b, hb, hb2⟩ => ⟨b, by rw [List.getElem?_append_left (List.getElem?_eq_some_iff.1 hb).1]; exact hb, hb2⟩
  let J : Nat → Prop := fun b => I' b ∨ b = (ρ' (mv.length + kk)).1
  have keeps : Keeps mv.length (fun i => ρ' ((List.range mv.length).getD i 0)) I' w' mv.length (fun i => ρ' ((List.range mv.length).getD i 0)) J w' := ⟨Nat.le_refl _, fun _ _ => rfl, fun _ h => .inl h, fun _ _ => rfl, fun _ c _ h => ⟨c, h, rfl⟩⟩
  refine ⟨_, rfl, x, fun i => ρ' ((List.range mv.length).getD i 0), J, rfl, ⟨fun n b hm => (hvw.blk n b hm).keep keeps rfl, ?_, hvw.inj, ?_⟩, ⟨Nat.le_refl _, hrho, fun n hn h => h, fun b h => .inl (p2.iSub b h), ?_, fun b hb => ?_, p2.wle, p2.frame⟩, ?_⟩
  · rintro n hn (h1 | h1)
    · exact hvw.notI n hn h1
    · have hlt : n < mv.length := Ab.live_lt hn
      have e0 : (List.range mv.length).getD n 0 = n := getD_range hlt
      have h1 : (ρ' n).1 = (ρ' (mv.length + kk)).1 := by rw [← h1]; exact congrArg (fun k => (ρ' k).1) e0.symm
      have := p1.inj n (mv.length + kk) (liveA n hn) hlvN h1
      exact absurd this (by omega)
  · rintro b (h1 | rfl)
    · exact hvw.ilt b h1
    · exact p1.live_lt hlvN
  · rintro b (h1 | rfl)
    · exact p2.iNew b h1
    · rcases p2.own _ ⟨_, hlvN, rfl⟩ with h | h
      · exact .inr (.inl h)
      · exact .inr (.inr h)
  · obtain ⟨n, h1, h2⟩ := hb
    have hn := Ab.live_lt h1
    right
    exact ⟨n, h1, by rw [← h2]; exact (congrArg Prod.fst (hrho n hn)).symm⟩
  · exact ret1_RV (J := J) (m := [.row ty sz es]) (ρ := fun _ => ρ' (mv.length + kk)) (I := I') (v0 := .sl sz 0 0 es.length) ⟨fun n b hb => by
      have : n = 0 ∧ b = .row ty sz es := by
        cases n with
        | zero => simpa using hb.symm
        | succ n => simp at hb
      obtain ⟨rfl, rfl⟩ := this
      have h1 := p1.blk _ _ hnew
      obtain ⟨c, k1, k2, k3⟩ := h1
      exact ⟨c, k1, k2, Rcc.mk fun i e he => by
        obtain ⟨q1, q2⟩ := k3.get i e he
        exact ⟨q1, bareL_Rc (List.all_eq_true.1 hes e (List.mem_of_getElem? he)) q2⟩⟩, fun n ⟨b, hb, hb2⟩ => by
      have : n = 0 := by
        cases n with
        | zero => rfl
        | succ n => simp at hb
      subst this
      exact p1.notI _ hlvN, fun n n' ⟨b, hb, _⟩ ⟨b', hb', _⟩ _ => by
      cases n with
      | zero =>
        cases n' with
        | zero => rfl
        | succ n => simp at hb'
      | succ n => simp at hb, p1.ilt⟩ (fun n _ => .inr rfl) (ret1_row rfl rfl hes) (by
      simp only [RV] at p3 ⊢
      obtain ⟨_, p3⟩ := p3
      exact ⟨by simp, p3⟩)

/-- A call that leaves memory as it was, in greater memory: its answer has no names. -/
theorem Snd_stillI {P : Program} {f : FuncId} {vs : List V} {m : Mem} {L : List Nat} {v : V} (hok : okCall L m vs = true) (hin : (view L m).all (inDB fun _ => true) = true) (hb : nf v = true)
    (h : Snd P f (rens (idx L) vs) (view L m) fun r => r = .ret v (view L m)) : Snd P f vs m fun r => r = .ret v m := by
  unfold okCall at hok
  simp only [Bool.and_eq_true] at hok
  intro ρ I w xs hr hl hrt
  have hview := hr.view hok.2
  have hrt' := Rt_sub (N' := (view L m).length) (ρ' := fun i => ρ (L.getD i 0)) (fun n hn hm => view_names (ρ := ρ) (m := m) n hn hm) _ _ 0 hok.1 hrt
  refine (h _ I w xs hview (by rw [rens_length]; exact hl) hrt').mono ?_
  rintro e w' ⟨r, rfl, x, ρ1, I1, rfl, p1, p2, p3⟩
  obtain ⟨ρ', m1, m2, _⟩ := hr.merge hok.2 p1 p2 hin
  rw [show (CR.ret v (view L m)).mem = view L m from rfl, merge_view hok.2] at m1 m2
  exact ⟨_, rfl, x, ρ', I1, rfl, m1, m2, RV_nf _ _ hb p3⟩
/-- The same of whatever memory holds the same there. -/
theorem quietI {P : Program} {f : FuncId} {vs : List V} {m : Mem} {L : List Nat} {v : V} (hok : okCall L m vs = true) (hin : (view L m).all (inDB fun _ => true) = true) (hb : nf v = true)
    (h : Snd P f (rens (idx L) vs) (view L m) fun r => r = .ret v (view L m)) : ∀ m2 : Mem, (∀ n ∈ L, m2[n]? = m[n]?) → Snd P f vs m2 fun r => r = .ret v m2 := by
  intro m2 hm2
  have hd : ∀ n ∈ L, m2.getD n .dead = m.getD n .dead := fun n hn => by simp only [List.getD, hm2 n hn]
  have hv : view L m2 = view L m := by
    unfold view
    exact List.map_congr_left fun n hn => by rw [hd n hn]
  have hok2 : okCall L m2 vs = true := by
    unfold okCall closedB at hok ⊢
    simp only [Bool.and_eq_true, List.all_eq_true, Nat.blt_eq] at hok ⊢
    refine ⟨hok.1, hok.2.1, fun n hn => ?_, fun n hn => by rw [hd n hn]; exact hok.2.2.2 n hn⟩
    have h1 := hok.2.2.1 n hn
    have h2 := hm2 n hn
    rw [List.getElem?_eq_getElem h1] at h2
    exact (List.getElem?_eq_some_iff.1 h2).1
  exact Snd_stillI hok2 (by rw [hv]; exact hin) hb (by rw [hv]; exact h)

/-! ### Calls on one flat row, where memory holds names elsewhere -/
theorem reach_one {m : Mem} {n : Nat} {b : B} (hn : m[n]? = some b) (hb : nfB b = true) (k : Nat) : reach m (k + 2) [n] [] = [n] := by
  have h : nmsB (m.getD n .dead) = [] := by simp only [List.getD, hn, Option.getD_some]; exact nmsB_flat hb
  have h2 : reach m (k + 1) [] [n] = [n] := rfl
  simp only [reach, List.contains_nil, cond_false, List.nil_append, h, h2]
theorem callD_row {P : Program} {f : FuncId} {m m1 : Mem} {s n len : Nat} {r : List V} {b b1 : B} {v : V} {K Kp : V → Mem → Prop} (h : Snd P f (.sl s 0 0 len :: r) [b] fun q => q = .ret v (b1 :: m1)) (he : enterable P f = true) (hb : nfB b = true) (hm1 : nfM (b1 :: m1) = true)
    (hn : m[n]? = some b) (hr : nfs r = true) (hd : inD (fun _ => true) v = true) (hk : K (ren (back [n] m.length) v) (m.set n b1 ++ m1)) : callD P f (.sl s n 0 len :: r) m K Kp := by
  have hlt : n < m.length := (List.getElem?_eq_some_iff.1 hn).1
  have hg : m.getD n .dead = b := by simp [List.getD, hn]
  have p1 : okCall [n] m (.sl s n 0 len :: r) = true := by
    unfold okCall closedB
    simp only [inDs, inD, nfs_inDs _ r hr, nodupB, List.all_cons, List.all_nil, hg, nfB_inDB _ hb]
    simp [hlt]
  have p2 : rens (idx [n]) (.sl s n 0 len :: r) = .sl s 0 0 len :: r := by simp [rens, ren, idx, rens_nf _ _ hr]
  have p3 : view [n] m = [b] := by simp only [view, List.map_cons, List.map_nil, hg, nfB_renB _ hb]
  have p0 : rootsV m (.sl s n 0 len :: r) = [n] := by
    unfold rootsV
    simp only [nmss, nms, nfs_nmss r hr, List.append_nil]
    exact reach_one hn hb 1998
  refine .inl ?_
  unfold callL
  rw [p0, p2, p3]
  refine ⟨p1, he, _, h, ?_⟩
  rintro q rfl
  refine ⟨?_, ?_⟩
  · simp only [okRes, CR.val, CR.mem, okBack, hd, all_inDB hm1]
    simp
  · simp only [backV, List.isEmpty_cons, Bool.false_and, cond_false, sl1_merge hm1]
    exact hk
end Go.Proofs.Ytpmbhjmlghoogaa
