/- The reference's reading of a message: its beginning and end. No condition. -/
import Derived.Test.YtjjenpdjmcmgbaaDRf
namespace Go.Proofs.Ytjjenpdjmcmgbaa
open Go Ab
set_option linter.unusedSimpArgs false
set_option linter.unusedVariables false
set_option maxRecDepth 20000
/-- A message's cells, some of its rows still the function's own. -/
def GC (M : Mem) (C : List V) (x : Ms) : Prop := C.length = 36 ∧ nfs (C.map (lend1 M)) = true ∧ Wks (C.map (lend1 M)) (msC x)
theorem ans_lendW {P : Program} {f : FuncId} {vs : List V} {l : List V} {k : IntKind} {n : Int} (h : Snd P f vs [] fun r => ∃ m1 C, r = .ret (.tup [.agg C, .int k n]) m1 ∧ nfs (C.map (lend1 m1)) = true ∧ Wks (C.map (lend1 m1)) l) : Ans P f vs (.tup [.agg l, .int k n]) := by
  refine ans_wk1 ?_
  intro ρ I w xs hr hl hrt
  have key : Snd P f vs [] fun r => ∃ m1 C, r = .ret (.tup [.agg C, .int k n]) m1 ∧ nfs (C.map (lend1 m1)) = true ∧ Wks (C.map (lend1 m1)) l := h
  refine (key ρ I w xs hr hl hrt).mono ?_
  rintro e w' ⟨r, ⟨m1, C, rfl, hn, hW⟩, x, ρ', I', rfl, k1, k2, k3⟩
  have k3' : RV m1.length ρ' I' w' (.tup [.agg C, .int k n]) x := k3
  have k1 : Rep ρ' I' m1 w' := k1
  have noOwn : ∀ b, ¬ Own ρ ([] : Mem) b := by rintro b ⟨n, hn, _⟩; simp [live] at hn
  have deadL : ∀ n, ¬ live (m1.map fun _ => B.dead) n := by
    rintro n ⟨b, hb, hl⟩
    rw [List.getElem?_map] at hb
    cases hm : m1[n]? with
    | none => rw [hm] at hb; cases hb
    | some c => rw [hm] at hb; cases hb; cases hl
  have new : ∀ b, Own ρ' m1 b → w.heap.size ≤ b := by
    intro b hb
    rcases k2.own b hb with h | h
    · exact h
    · exact absurd h (noOwn _)
  have hnf : nf (lendT m1 (.tup [.agg C, .int k n])) = true := by
    show nf (.tup [.agg (C.map (lend1 m1)), .int k n]) = true
    simp only [nf, nfs, hn, Bool.and_self]
  refine ⟨.ret (.tup [.agg (C.map (lend1 m1)), .int k n]) (m1.map fun _ => B.dead), ⟨_, _, rfl, hW⟩, x, ρ', fun b => I' b ∨ Own ρ' m1 b, rfl, ⟨?_, fun n hn => absurd hn (deadL n), fun n _ hn => absurd hn (deadL n), ?_⟩, ?_, ?_⟩
  · intro n b hb
    have : ∀ b, (m1.map fun _ => B.dead)[n]? = some b → b = .dead := by
      intro b hb
      rw [List.getElem?_map] at hb
      cases hm : m1[n]? with
      | none => rw [hm] at hb; cases hb
      | some c => rw [hm] at hb; cases hb; rfl
    rw [this b hb]
    trivial
  · rintro b (hb | hb)
    · exact k1.ilt b hb
    · exact own_lt k1 hb
  · refine ⟨by simp, fun n hn => by simp at hn, fun n hn => by simp at hn, fun b hb => .inl (k2.iSub b hb), ?_, fun b ⟨n, hn, _⟩ => absurd hn (deadL n), k2.wle, k2.frame⟩
    rintro b (hb | hb)
    · exact k2.iNew b hb
    · exact .inr (.inl (new b hb))
  · exact lend_any k1 k3' hnf
/-- Check on a message some of whose rows are the caller's own. -/
theorem snd10c {M : Mem} {C : List V} {x : Ms} (hx : wfM x) (h : GC M C x) : Snd Try.prog 10 [.agg C] M fun r => r = .ret (.int .i64 (chkM x)) M :=
  Snd_lend (vs' := [.agg (C.map (lend1 M))]) rfl (nfs_cons h.2.1 rfl) (h.2.2.ans (ans10 x hx)) rfl
theorem msK_len (L P E F H : V) (x : Ms) : (msK L P E F H x).length = 36 := rfl
theorem bu37r (t : Int) (i : Nat) : buildV Try.prog 37 [(0, .int .i8 t), (1, .int .u32 (i : Int))] = some (.agg (msK .nils .nils .nils .nils .nils (e0 t i))) := by kernel_rfl
theorem bu77r (b : List Nat) (a : Int) (x : Bool) : buildV Try.prog 77 [(0, byV b), (1, .int .i64 a), (2, .bool x)] = some (.agg [byV b, .int .i64 a, .bool x]) := by
  unfold byV
  generalize b.map byC = y
  kernel_rfl
theorem upd2 {M : Mem} {b : List Nat} {S : Option (List Nat)} {C z : List V} (C' : List V) (hz : M[0]? = some (.var 37 z)) (hq : M[2]? = some (.var 37 C)) (hR : RdS M 1 b S) : (M.set 2 (.var 37 C'))[0]? = some (.var 37 z) ∧ (M.set 2 (.var 37 C'))[2]? = some (.var 37 C') ∧ RdS (M.set 2 (.var 37 C')) 1 b S :=
  ⟨by rw [List.getElem?_set_ne (by omega)]; exact hz, List.getElem?_set_self (List.getElem?_eq_some_iff.1 hq).1, hR.at (List.getElem?_set_ne (by omega))⟩
theorem up1 {M M' : Mem} {z C : List V} (k : K1 1 M M') (hz : M[0]? = some (.var 37 z)) (hq : M[2]? = some (.var 37 C)) : M'[0]? = some (.var 37 z) ∧ M'[2]? = some (.var 37 C) := ⟨k.2 _ _ (by omega) hz, k.2 _ _ (by omega) hq⟩
theorem stq {M : Mem} {C : List V} {o : Nat} {v : V} (hq : M[2]? = some (.var 37 C)) (ho : o < C.length) (hv : oneV v = true) : storeK 1 M (.ptr 2 o) v = some (M.set 2 (.var 37 (C.set o v))) := by
  rw [storeK_one hv, hq]
  simp [ho]
theorem gcK {M : Mem} {L P E F H : V} {x : Ms} (h1 : nf (lend1 M L) = true) (h2 : nf (lend1 M P) = true) (h3 : nf (lend1 M E) = true) (h4 : nf (lend1 M F) = true) (h5 : nf (lend1 M H) = true) (k1 : Wk (lend1 M L) (cpsV x.r.l)) (k2 : Wk (lend1 M P) (poV x.ports)) (k3 : Wk (lend1 M E) (poV x.edge)) (k4 : Wk (lend1 M F) (byV x.frame)) (k5 : Wk (lend1 M H) (hesV x.helds)) : GC M (msK L P E F H x) x := by
  have e : (msK L P E F H x).map (lend1 M) = msK (lend1 M L) (lend1 M P) (lend1 M E) (lend1 M F) (lend1 M H) x := rfl
  unfold GC
  rw [e]
  refine ⟨rfl, ?_, ?_⟩
  · show nfs (.int .i8 x.ty :: .int .u32 (x.id : Int) :: .int .i8 x.dd :: (rk4 x.r.rank x.r.w (lend1 M L) x.r.ck ++ [.int .u16 (x.port : Int), .bool x.up, .int .u16 (x.sw : Int), lend1 M P, lend1 M E, lend1 M F, lend1 M H, .int .u16 (x.code : Int)])) = true
    have hr : nfs (rk4 x.r.rank x.r.w (lend1 M L) x.r.ck) = true := by
      show nfs (.int .i64 x.r.rank :: (mC x.r.w ++ [lend1 M L, .int .u64 (x.r.ck : Int)])) = true
      simp only [nfs, nf, Bool.true_and]
      rw [nfs_app (by simp only [mC, nfs_cl]) (by simp only [nfs, nf, h1, Bool.and_self])]
    simp only [nfs, nf, Bool.true_and]
    rw [nfs_app hr (by simp only [nfs, nf, h2, h3, h4, h5, Bool.and_self])]
  · rw [← msK_C]
    unfold msK rk4 mC cl
    simp only [List.range, List.range.loop, List.map_cons, List.map_nil, List.cons_append, List.nil_append]
    repeat (first | exact .nil | refine .cons .eq ?_ | refine .cons k1 ?_ | refine .cons k2 ?_ | refine .cons k3 ?_ | refine .cons k4 ?_ | refine .cons k5 ?_)
theorem lend_set {M : Mem} {z C' : List V} (h0 : M[0]? = some (.var 37 z)) (v : V) : lend1 (M.set 0 (.var 37 C')) v = lend1 M v := by
  have hs : (M.set 0 (.var 37 C'))[0]? = some (.var 37 C') := List.getElem?_set_self (List.getElem?_eq_some_iff.1 h0).1
  cases v with
  | sl sz n off len =>
    by_cases hn : n = 0
    · subst hn
      simp only [lend1, h0, hs]
    · have : (M.set 0 (.var 37 C'))[n]? = M[n]? := List.getElem?_set_ne fun e => hn e.symm
      simp only [lend1, this]
  | _ => rfl
theorem gc_set {M : Mem} {z C C' : List V} {x : Ms} (h0 : M[0]? = some (.var 37 z)) (h : GC M C x) : GC (M.set 0 (.var 37 C')) C x := by
  have e : C.map (lend1 (M.set 0 (.var 37 C'))) = C.map (lend1 M) := List.map_congr_left fun v _ => lend_set h0 v
  unfold GC
  rw [e]
  exact h
/-- The states of memory while an element read is put behind a message's list. -/
def JF (G : Mem → Prop) (E s kk : Nat) (es : List (List V)) (x C' : List V) : Nat → Mem → Prop
  | 0, M => G M
  | 1, M => ∃ Mc, G Mc ∧ M = S1 Mc E s x
  | 2, M => ∃ Mc, G Mc ∧ M = S2 Mc E s kk es x
  | _, M => ∃ Mc, G Mc ∧ M = (S2 Mc E s kk es x).set 2 (.var 37 C')
theorem JF_at {G : Mem → Prop} {E s kk : Nat} {es : List (List V)} {x C' : List V} {i n t : Nat} {c : List V} {M : Mem} (hJ : JF G E s kk es x C' i M) (hi : i ≤ 1) (h : ∀ Mc, G Mc → Mc[n]? = some (.var t c)) : M[n]? = some (.var t c) := by
  match i, hi with
  | 0, _ => exact h _ hJ
  | 1, _ =>
    obtain ⟨Mc, g, rfl⟩ := hJ
    have := h _ g
    rw [S1, List.getElem?_append_left (List.getElem?_eq_some_iff.1 this).1]
    exact this
def JB (M0 : Mem) (G1 : Mem → Prop) (J : Nat → Mem → Prop) : Nat → Mem → Prop
  | 0, M => M = M0
  | 1, M => G1 M
  | i + 2, M => J i M
theorem JB_at {G1 G : Mem → Prop} {M0 : Mem} {E s kk : Nat} {es : List (List V)} {x C' : List V} {i n t : Nat} {c : List V} {M : Mem} (hJ : JB M0 G1 (JF G E s kk es x C') i M) (hi : i ≤ 3) (h0 : M0[n]? = some (.var t c)) (h1 : ∀ Mc, G1 Mc → Mc[n]? = some (.var t c)) (h : ∀ Mc, G Mc → Mc[n]? = some (.var t c)) : M[n]? = some (.var t c) := by
  match i, hi with
  | 0, _ => cases hJ; exact h0
  | 1, _ => exact h1 _ hJ
  | i + 2, hi => exact JF_at (i := i) hJ (by omega) h
def JC (M0 : Mem) (G1 G2 : Mem → Prop) (J : Nat → Mem → Prop) : Nat → Mem → Prop
  | 0, M => M = M0
  | 1, M => G1 M
  | 2, M => G2 M
  | 3, M => G2 M
  | i + 4, M => J i M
theorem JC_at {G1 G : Mem → Prop} {M0 : Mem} {E s kk : Nat} {es : List (List V)} {x C' : List V} {i n t : Nat} {c : List V} {M : Mem} (hJ : JC M0 G1 G (JF G E s kk es x C') i M) (hi : i ≤ 5) (h0 : M0[n]? = some (.var t c)) (h1 : ∀ Mc, G1 Mc → Mc[n]? = some (.var t c)) (h : ∀ Mc, G Mc → Mc[n]? = some (.var t c)) : M[n]? = some (.var t c) := by
  match i, hi with
  | 0, _ => cases hJ; exact h0
  | 1, _ => exact h1 _ hJ
  | 2, _ => exact h _ hJ
  | 3, _ => exact h _ hJ
  | i + 4, hi => exact JF_at (i := i) hJ (by omega) h
theorem JC_any {G1 G : Mem → Prop} {M0 : Mem} {E s kk : Nat} {es : List (List V)} {x C' : List V} {i n t : Nat} {c : List V} {M : Mem} (hJ : JC M0 G1 G (JF G E s kk es x C') i M) (h0 : M0[n]? = some (.var t c)) (h1 : ∀ Mc, G1 Mc → Mc[n]? = some (.var t c)) (h : ∀ Mc, G Mc → Mc[n]? = some (.var t c)) (hn : n ≠ 2) (hk : es ≠ [] → n ≠ kk) : M[n]? = some (.var t c) := by
  match i with
  | 0 => cases hJ; exact h0
  | 1 => exact h1 _ hJ
  | 2 => exact h _ hJ
  | 3 => exact h _ hJ
  | 4 => exact h _ hJ
  | 5 => exact JF_at (G := G) (E := E) (s := s) (kk := kk) (es := es) (x := x) (C' := C') (i := 1) hJ (by omega) h
  | 6 =>
    obtain ⟨Mc, g, rfl⟩ := hJ
    exact S2_at (h _ g) hk
  | i + 7 =>
    obtain ⟨Mc, g, rfl⟩ := hJ
    rw [List.getElem?_set_ne fun e => hn e.symm]
    exact S2_at (h _ g) hk
theorem S2_last {M : Mem} {E s kk : Nat} {es : List (List V)} {x : List V} : (S2 M E s kk es x)[M.length + 1]? = some (.row E s (es ++ [x])) := by
  have hl : (killE (S1 M E s x) kk es).length = M.length + 1 := by rw [killE_len]; simp [S1]
  unfold S2
  rw [← hl]
  exact at_app0
def RD2 (b : List Nat) (r : CR) : Prop := ∃ m1 C, r = .ret (.tup [.agg C, .int .i64 (decE b)]) m1 ∧ nfs (C.map (lend1 m1)) = true ∧ Wks (C.map (lend1 m1)) (msC (decX b))
theorem nfs_zM : nfs zM = true := rfl
set_option maxHeartbeats 8000000 in
theorem snd13 {b : List Nat} (hb : Byt b) : Snd Try.prog 13 [byV b] [] (RD2 b) := by
  refine Snd_of_W fol rfl rfl (by kernel_rfl) (by kernel_rfl) ?_
  have lnr : ∀ M, lenV Try.prog M 34 (byV b) = some (.int .i64 (b.length : Int)) := fun M => by unfold byV; rw [lni34, List.length_map]
  have l8 : decide ((b.length : Int) < 8) = decide (b.length < 8) := by rw [Bool.eq_iff_iff]; simp; omega
  have sp0 : splice zM 0 zM = zM := splice_all rfl
  have hzl : zM.length = 36 := rfl
  have pz : partK true 36 zM 0 = some (.agg zM) := part37z
  have finS : short b = true → ∀ m1, RD2 b (.ret (.tup [.agg zM, .int .i64 51]) m1) := fun hs m1 => ⟨m1, zM, by
    have : decE b = 51 := by unfold decE; rw [hs]; rfl
    rw [this], nfs_zM, by
    have : decX b = e0 0 0 := by unfold decX; rw [hs]; rfl
    rw [this]; exact wksZ⟩
  cases e8 : decide (b.length < 8)
  rotate_left
  · have hs : short b = true := by unfold short; rw [e8]; rfl
    have finS := finS hs
    simp -implicitDefEqProofs only [sims.1, fx.1, keeps.1, tick_on, Nat.reduceEqDiff, lnr, l8, e8]
    simp only [zMx]
    generalize hz : zM = z at finS sp0 hzl pz ⊢
    simp -implicitDefEqProofs only [sims.1, fx.1, keeps.1, tick_on, Nat.reduceEqDiff, storeK_agg, hzl, sp0, pz, Nat.le_refl]
    exact finS _
  obtain ⟨b0, b1, b2, b3, r, hbb⟩ := len8 (show 8 ≤ b.length by have := of_decide_eq_false e8; omega)
  have g0 : b.getD 0 0 = b0 := by rw [hbb]; rfl
  have g1 : tyB b = IntKind.i8.wrap (b1 : Int) := by rw [hbb]; rfl
  have hall : allB b = b2 * 256 + b3 := by rw [hbb]; rfl
  have h0 : b0 < 256 := hb.1 _ (by rw [hbb]; simp)
  have h2 : b2 < 256 := hb.1 _ (by rw [hbb]; simp)
  have h3 : b3 < 256 := hb.1 _ (by rw [hbb]; simp)
  have hl8 : 8 ≤ b.length := by have := of_decide_eq_false e8; omega
  have i0 : ∀ {k : IntKind}, iaddrS 1 (byV b) (.int k 0) = some (.ip (byC b0)) := fun {k} => by rw [hbb]; exact iaddrS_isl (j := 0) rfl
  have i1 : ∀ {k : IntKind}, iaddrS 1 (byV b) (.int k 1) = some (.ip (byC b1)) := fun {k} => by rw [hbb]; exact iaddrS_isl (j := 1) rfl
  have c0 : (byC b0)[0]? = some (.int .u8 (b0 : Int)) := rfl
  have c1 : (byC b1)[0]? = some (.int .u8 (b1 : Int)) := rfl
  have v2 : beV ((b.drop 2).take 2) = allB b := by rw [hall, hbb]; simp [beV]
  have nby : ∀ x y : Int, nfs [byV b, .int .i64 x, .int .i64 y] = true := fun x y => by simp only [nfs, nf, nf_by, Bool.and_self]
  have wall : IntKind.i64.wrap (allB b : Int) = (allB b : Int) := by rw [hall, IntKind.wrap_i64]; omega
  have ls : decide ((b.length : Int) < (allB b : Int)) = decide (b.length < allB b) := by rw [Bool.eq_iff_iff]; simp
  have A2 := ans23 hb (a := 2) (n := 2) (by omega) (by omega)
  rw [v2] at A2
  simp -implicitDefEqProofs only [sims.1, fx.1, keeps.1, tick_on, calleeK, Nat.reduceEqDiff, lnr, l8, e8]
  simp only [zMx]
  refine callD_ans A2 en23 (nby _ _) rfl ?_
  cases eL : decide (b.length < allB b)
  rotate_left
  · have hs : short b = true := by unfold short; rw [eL, Bool.or_true]
    have finS := finS hs
    simp -implicitDefEqProofs only [sims.1, fx.1, keeps.1, tick_on, Nat.reduceEqDiff, wall, lnr, ls, eL]
    simp only [zMx]
    generalize hz : zM = z at finS sp0 hzl pz ⊢
    simp -implicitDefEqProofs only [sims.1, fx.1, keeps.1, tick_on, Nat.reduceEqDiff, storeK_agg, hzl, sp0, pz, Nat.le_refl]
    exact finS _
  have hs : short b = false := by unfold short; rw [e8, eL]; rfl
  clear finS
  have n0 : decide ((b0 : Int) = 1) = decide (b0 = 1) := by rw [Bool.eq_iff_iff]; simp; omega
  have na : decide ((allB b : Int) = (b.length : Int)) = decide (b.length = allB b) := by rw [Bool.eq_iff_iff]; simp only [decide_eq_true_eq]; omega
  -- the reader
  generalize hS0 : (if (decide (b0 = 1) && decide (b.length = allB b)) = true then some (b.drop 8) else none) = S0
  have hcases : ∃ bad : Bool, RdS [B.var 37 zM, B.var 77 [byV b, .int .i64 8, .bool bad]] 1 b S0 ∧ bad = !(decide (b0 = 1) && decide (b.length = allB b)) := by
    refine ⟨_, ?_, rfl⟩
    rw [← hS0]
    cases h : decide (b0 = 1) && decide (b.length = allB b)
    · exact ⟨8, hl8, rfl⟩
    · exact ⟨8, hl8, rfl, rfl⟩
  obtain ⟨bad, hR, hbad⟩ := hcases
  have V4 := ans23 hb (a := 4) (n := 4) (by omega) (by omega)
  have e4 : rdN 4 (b.drop 4) = some (beV ((b.drop 4).take 4), b.drop 8) := by
    unfold rdN
    rw [if_pos (by rw [List.length_drop]; omega), List.drop_drop]
  have hid := rdN_lt (hb.drop 4) e4
  generalize hidv : beV ((b.drop 4).take 4) = id at V4 e4 hid
  have wid' : IntKind.u32.wrap (id : Int) = (id : Int) := by rw [IntKind.wrap_u32]; have : id < 256 ^ 4 := hid; omega
  have hmsg : rdMsg b = if isTy (tyB b) = true then (S0.bind (rdBody (tyB b) id)).bind (fun x => if x.2 = [] ∧ chkM x.1 = 0 then some x.1 else none) else none := by
    unfold rdMsg
    rw [g0, e4, ← hS0]
    cases hT : isTy (tyB b)
    · simp
    · by_cases hg : b0 = 1 ∧ b.length = allB b
      · have : (decide (b0 = 1) && decide (b.length = allB b)) = true := by simp [hg.1]; exact hg.2
        rw [if_pos ⟨rfl, hg⟩, if_pos this]
        rfl
      · have : (decide (b0 = 1) && decide (b.length = allB b)) = false := by
          rcases Nat.decEq b0 1 with h | h
          · simp [h]
          · simp only [h, decide_true, Bool.true_and, decide_eq_false_iff_not]
            exact fun h2 => hg ⟨h, h2⟩
        rw [if_neg (fun h => hg h.2), if_pos rfl, this]
        rfl
  have hnn : ∀ k o, nonnil (.ptr k o) = true := fun _ _ => rfl
  simp -implicitDefEqProofs only [sims.1, fx.1, keeps.1, tick_on, Nat.reduceEqDiff, wall, lnr, ls, eL, i0, c0, n0]
  refine cutTest (fun e m' => e 0 = byV b ∧ e 2 = .ptr 0 0 ∧ e 5 = .ptr 1 0 ∧ m' = [B.var 37 zM, B.var 77 [byV b, .int .i64 8, .bool bad]]) ?_ ?_ ?_
  · intro ht
    have hb1 : decide (b0 = 1) = true := by simpa using ht
    rw [hb1, Bool.true_and] at hbad
    simp -implicitDefEqProofs only [sims.1, keeps.1, tick_on, Nat.reduceEqDiff, hb1, lnr, na, bu77r]
    refine ⟨by trivial, by trivial, by trivial, ?_⟩
    rw [hbad]
  · intro ht
    have hb1 : decide (b0 = 1) = false := by simpa using ht
    rw [hb1] at hbad
    simp -implicitDefEqProofs only [sims.1, keeps.1, tick_on, Nat.reduceEqDiff, hb1, bu77r]
    refine ⟨by trivial, by trivial, by trivial, ?_⟩
    rw [hbad]
    rfl
  rintro env M0 ⟨he0, he2, he5, rfl⟩
  clear n0 na
  simp -implicitDefEqProofs only [sims.1, tick_on]
  refine w_noisy ?_
  have w1' : IntKind.i8.wrap (b1 : Int) = tyB b := g1.symm
  simp -implicitDefEqProofs only [sims.1, fx.1, keeps.1, tick_on, Nat.reduceAdd, Nat.reduceEqDiff, he0, i1, c1]
  refine orderP_of (by kernel_rfl) ?_
  simp -implicitDefEqProofs only [sims.1, fx.1, keeps.1, tick_on, calleeK, Nat.reduceEqDiff, he0, w1']
  refine callE_ans V4 en23 (nby _ _) rfl ?_
  simp -implicitDefEqProofs only [sims.1, fx.1, keeps.1, tick_on, Nat.reduceAdd, Nat.reduceEqDiff, wid', bu37r]
  simp only [zMx]
  generalize hz : zM = z at sp0 hzl pz hR
  have spz : ∀ l : List V, l.length = 36 → splice z 0 l = l := fun l hl => splice_all (by rw [hzl, hl])
  refine orderP_of (by kernel_rfl) ?_
  simp -implicitDefEqProofs only [sims.1, fx.1, keeps.1, tick_on, Nat.reduceAdd, Nat.reduceEqDiff, storeK_agg, hzl, Nat.le_refl, msK_len, spz]
  refine orderP_of (by kernel_rfl) ?_
  simp -implicitDefEqProofs only [sims.1, fx.1, keeps.1, tick_on, faddrK, Nat.reduceEqDiff]
  have f0 : ([B.var 37 z, B.var 77 [byV b, .int .i64 8, .bool bad], B.var 37 (msK .nils .nils .nils .nils .nils (e0 (tyB b) id))] : Mem)[0]? = some (.var 37 z) := rfl
  have f2 : ([B.var 37 z, B.var 77 [byV b, .int .i64 8, .bool bad], B.var 37 (msK .nils .nils .nils .nils .nils (e0 (tyB b) id))] : Mem)[2]? = some (.var 37 (msK .nils .nils .nils .nils .nils (e0 (tyB b) id))) := rfl
  have fR : RdS ([B.var 37 z, B.var 77 [byV b, .int .i64 8, .bool bad], B.var 37 (msK .nils .nils .nils .nils .nils (e0 (tyB b) id))] : Mem) 1 b S0 := hR.app [_]
  generalize htt : tyB b = t at *
  generalize hMM : ([B.var 37 z, B.var 77 [byV b, .int .i64 8, .bool bad], B.var 37 (msK .nils .nils .nils .nils .nils (e0 t id))] : Mem) = M1 at f0 f2 fR ⊢
  have f22 : (msK .nils .nils .nils .nils .nils (e0 t id))[0]? = some (.int .i8 t) := rfl
  have lM1 : 3 ≤ M1.length := by rw [← hMM]; exact Nat.le_refl 3
  have lt4 : decide (t = 4) = decide (t = 4) := rfl
  clear hMM hR
  have big : ∀ {M : Mem} {S : Option (List Nat)} (h : RdS M 1 b S) (n : Nat), nV n S < 256 ^ n := fun h n => nV_lt (h.byt hb)
  have goal8 : t = 4 ∨ t = 5 ∨ t = 6 ∨ t = 7 ∨ t = 11 ∨ t = 12 ∨ t = 13 ∨ (decide (t = 4) = false ∧ decide (t = 5) = false ∧ decide (t = 6) = false ∧ decide (t = 7) = false ∧ decide (t = 11) = false ∧ decide (t = 12) = false ∧ decide (t = 13) = false) := by
    simp only [decide_eq_false_iff_not]
    omega
  refine goal8.elim (fun h => ?T4) fun goal8 => goal8.elim (fun h => ?T5) fun goal8 => goal8.elim (fun h => ?T6) fun goal8 => goal8.elim (fun h => ?T7) fun goal8 => goal8.elim (fun h => ?T11) fun goal8 => goal8.elim (fun h => ?T12) fun goal8 => goal8.elim (fun h => ?T13) fun h => ?TN
  case' T4 =>
    subst h
    simp -implicitDefEqProofs only [sims.1, keeps.1, tick_on, calleeK, Nat.reduceEqDiff, f22, he5]
    refine callD_n (n := 2) hb fR (by omega) (by omega) fun m1 k1 s1 => ?_
    have lv1 := big fR 2
    obtain ⟨y1, q1⟩ := up1 k1 f0 f2
    have w1 : IntKind.u16.wrap (nV 2 S0 : Int) = (nV 2 S0 : Int) := by rw [IntKind.wrap_u16]; omega
    have c1' : (msK .nils .nils .nils .nils .nils (e0 4 id)).set 30 (.int .u16 (nV 2 S0 : Int)) = msK .nils .nils .nils .nils .nils { e0 4 id with sw := nV 2 S0 } := rfl
    simp -implicitDefEqProofs only [sims.1, fx.1, keeps.1, tick_on, calleeK, faddrK, Nat.reduceEqDiff, Nat.reduceLT, he5, w1, q1, msK_len, c1']
    obtain ⟨z2, q2, s2⟩ := upd2 (msK .nils .nils .nils .nils .nils { e0 4 id with sw := nV 2 S0 }) y1 q1 s1
    have l2 : (m1.set 2 (.var 37 (msK .nils .nils .nils .nils .nils { e0 4 id with sw := nV 2 S0 }))).length = m1.length := by simp
    generalize m1.set 2 (.var 37 (msK .nils .nils .nils .nils .nils { e0 4 id with sw := nV 2 S0 })) = m2 at z2 q2 s2 l2 ⊢
    refine callD_q (snd25 hb s2) en25 ?_ ?_
    rotate_left
    · rintro v m ⟨m', l, e, _⟩
      cases e
    rintro v m3 ⟨m', l1, e, k3, s3, _, x3⟩
    cases e
    obtain ⟨y3, q3⟩ := up1 k3 z2 q2
    have st3 := stq (o := 31) (v := poV l1) q3 (by rw [msK_len]; omega) rfl
    rw [K31] at st3
    simp -implicitDefEqProofs only [sims.1, fx.1, keeps.1, tick_on, calleeK, faddrK, Nat.reduceEqDiff, he5, st3]
    obtain ⟨z4, q4, s4⟩ := upd2 (msK .nils (poV l1) .nils .nils .nils { e0 4 id with sw := nV 2 S0 }) y3 q3 s3
    have l4 : (m3.set 2 (.var 37 (msK .nils (poV l1) .nils .nils .nils { e0 4 id with sw := nV 2 S0 }))).length = m3.length := by simp
    generalize m3.set 2 (.var 37 (msK .nils (poV l1) .nils .nils .nils { e0 4 id with sw := nV 2 S0 })) = m4 at z4 q4 s4 l4 ⊢
    refine callD_q (snd25 hb s4) en25 ?_ ?_
    rotate_left
    · rintro v m ⟨m', l, e, _⟩
      cases e
    rintro v m5 ⟨m', l2, e, k5, s5, _, x5⟩
    cases e
    obtain ⟨y5, q5⟩ := up1 k5 z4 q4
    have st5 := stq (o := 32) (v := poV l2) q5 (by rw [msK_len]; omega) rfl
    rw [K32] at st5
    simp -implicitDefEqProofs only [sims.1, fx.1, keeps.1, tick_on, faddrK, nonnil, Nat.reduceEqDiff, he5, st5]
    obtain ⟨zF, qF, sF⟩ := upd2 (msK .nils (poV l1) (poV l2) .nils .nils { e0 4 id with sw := nV 2 S0 }) y5 q5 s5
    have lF : (m5.set 2 (.var 37 (msK .nils (poV l1) (poV l2) .nils .nils { e0 4 id with sw := nV 2 S0 }))).length = m5.length := by simp
    generalize m5.set 2 (.var 37 (msK .nils (poV l1) (poV l2) .nils .nils { e0 4 id with sw := nV 2 S0 })) = mF at zF qF sF lF ⊢
    have got := bd4 (t := 4) (i := id) rfl x3 x5
    have gc : GC mF (msK .nils (poV l1) (poV l2) .nils .nils { e0 4 id with sw := nV 2 S0 }) { e0 4 id with sw := nV 2 S0, ports := l1, edge := l2 } :=
      gcK (x := { e0 4 id with sw := nV 2 S0, ports := l1, edge := l2 }) rfl (nf_po l1) (nf_po l2) rfl rfl .nil .eq .eq .nil .nil
    generalize msK .nils (poV l1) (poV l2) .nils .nils { e0 4 id with sw := nV 2 S0 } = C at qF gc ⊢
    generalize ({ e0 4 id with sw := nV 2 S0, ports := l1, edge := l2 } : Ms) = x at got gc
    generalize hSF : ((((nS 2 S0).bind rdP).map (·.2)).bind rdP).map (·.2) = SF at got sF
  case' T5 =>
    subst h
    simp -implicitDefEqProofs only [sims.1, keeps.1, tick_on, calleeK, Nat.reduceEqDiff, Int.reduceEq, f22, he5]
    refine callD_n (n := 1) hb fR (by omega) (by omega) fun m1 k1 s1 => ?_
    have lv1 := big fR 1
    obtain ⟨y1, q1⟩ := up1 k1 f0 f2
    have c1' : ∀ v : Int, (msK .nils .nils .nils .nils .nils (e0 5 id)).set 2 (.int .i8 v) = msK .nils .nils .nils .nils .nils { e0 5 id with dd := v } := fun _ => rfl
    simp -implicitDefEqProofs only [sims.1, fx.1, keeps.1, tick_on, calleeK, faddrK, Nat.reduceEqDiff, Nat.reduceLT, he5, q1, msK_len, c1']
    obtain ⟨z2, q2, s2⟩ := upd2 (msK .nils .nils .nils .nils .nils { e0 5 id with dd := IntKind.i8.wrap (nV 1 S0 : Int) }) y1 q1 s1
    have l2 : (m1.set 2 (.var 37 (msK .nils .nils .nils .nils .nils { e0 5 id with dd := IntKind.i8.wrap (nV 1 S0 : Int) }))).length = m1.length := by simp
    generalize m1.set 2 (.var 37 (msK .nils .nils .nils .nils .nils { e0 5 id with dd := IntKind.i8.wrap (nV 1 S0 : Int) })) = m2 at z2 q2 s2 l2 ⊢
    refine callD_q (snd26 hb s2) en26 ?_ ?_
    rotate_left
    · rintro v m ⟨m', l, e, _⟩
      cases e
    rintro v m3 ⟨m', r1, e, k3, s3, _, x3⟩
    cases e
    obtain ⟨y3, q3⟩ := up1 k3 z2 q2
    have sp3 : splice (msK .nils .nils .nils .nils .nils { e0 5 id with dd := IntKind.i8.wrap (nV 1 S0 : Int) }) 3 (ruC r1) = msK (cpsV r1.l) .nils .nils .nils .nils { e0 5 id with dd := IntKind.i8.wrap (nV 1 S0 : Int), r := r1 } := rfl
    have o28 : 3 + 25 ≤ 36 := by omega
    simp -implicitDefEqProofs only [sims.1, fx.1, keeps.1, tick_on, faddrK, nonnil, Nat.reduceAdd, Nat.reduceEqDiff, he5, storeK_agg, ruCl, q3, msK_len, o28, sp3]
    obtain ⟨zF, qF, sF⟩ := upd2 (msK (cpsV r1.l) .nils .nils .nils .nils { e0 5 id with dd := IntKind.i8.wrap (nV 1 S0 : Int), r := r1 }) y3 q3 s3
    have lF : (m3.set 2 (.var 37 (msK (cpsV r1.l) .nils .nils .nils .nils { e0 5 id with dd := IntKind.i8.wrap (nV 1 S0 : Int), r := r1 }))).length = m3.length := by simp
    generalize m3.set 2 (.var 37 (msK (cpsV r1.l) .nils .nils .nils .nils { e0 5 id with dd := IntKind.i8.wrap (nV 1 S0 : Int), r := r1 })) = mF at zF qF sF lF ⊢
    have got := bd5 (t := 5) (i := id) rfl x3
    have gc : GC mF (msK (cpsV r1.l) .nils .nils .nils .nils { e0 5 id with dd := IntKind.i8.wrap (nV 1 S0 : Int), r := r1 }) { e0 5 id with dd := IntKind.i8.wrap (nV 1 S0 : Int), r := r1 } :=
      gcK (x := { e0 5 id with dd := IntKind.i8.wrap (nV 1 S0 : Int), r := r1 }) (nf_cps r1.l) rfl rfl rfl rfl .eq .nil .nil .nil .nil
    generalize msK (cpsV r1.l) .nils .nils .nils .nils { e0 5 id with dd := IntKind.i8.wrap (nV 1 S0 : Int), r := r1 } = C at qF gc ⊢
    generalize ({ e0 5 id with dd := IntKind.i8.wrap (nV 1 S0 : Int), r := r1 } : Ms) = x at got gc
    generalize hSF : ((nS 1 S0).bind rdR).map (·.2) = SF at got sF
  case' T13 =>
    subst h
    simp -implicitDefEqProofs only [sims.1, keeps.1, tick_on, calleeK, Nat.reduceEqDiff, Int.reduceEq, f22, he5]
    refine callD_n (n := 2) hb fR (by omega) (by omega) fun m1 k1 s1 => ?_
    have lv1 := big fR 2
    obtain ⟨y1, q1⟩ := up1 k1 f0 f2
    have w1 : IntKind.u16.wrap (nV 2 S0 : Int) = (nV 2 S0 : Int) := by rw [IntKind.wrap_u16]; omega
    have c1' : (msK .nils .nils .nils .nils .nils (e0 13 id)).set 35 (.int .u16 (nV 2 S0 : Int)) = msK .nils .nils .nils .nils .nils { e0 13 id with code := nV 2 S0 } := rfl
    simp -implicitDefEqProofs only [sims.1, fx.1, keeps.1, tick_on, faddrK, nonnil, Nat.reduceEqDiff, Nat.reduceLT, he5, w1, q1, msK_len, c1']
    obtain ⟨zF, qF, sF⟩ := upd2 (msK .nils .nils .nils .nils .nils { e0 13 id with code := nV 2 S0 }) y1 q1 s1
    have lF : (m1.set 2 (.var 37 (msK .nils .nils .nils .nils .nils { e0 13 id with code := nV 2 S0 }))).length = m1.length := by simp
    generalize m1.set 2 (.var 37 (msK .nils .nils .nils .nils .nils { e0 13 id with code := nV 2 S0 })) = mF at zF qF sF lF ⊢
    have got := bd13 (t := 13) (i := id) (S0 := S0) rfl
    have gc : GC mF (msK .nils .nils .nils .nils .nils { e0 13 id with code := nV 2 S0 }) { e0 13 id with code := nV 2 S0 } :=
      gcK (x := { e0 13 id with code := nV 2 S0 }) rfl rfl rfl rfl rfl .nil .nil .nil .nil .nil
    generalize msK .nils .nils .nils .nils .nils { e0 13 id with code := nV 2 S0 } = C at qF gc ⊢
    generalize ({ e0 13 id with code := nV 2 S0 } : Ms) = x at got gc
    generalize hSF : nS 2 S0 = SF at got sF
  case' TN =>
    obtain ⟨d4, d5, d6, d7, d11, d12, d13⟩ := h
    simp -implicitDefEqProofs only [sims.1, fx.1, keeps.1, tick_on, faddrK, nonnil, Nat.reduceEqDiff, f22, he5, d4, d5, d6, d7, d11, d12, d13]
    have zF := f0
    have qF := f2
    have sF := fR
    have got := bdN (t := t) (i := id) (S0 := S0) (of_decide_eq_false d4) (of_decide_eq_false d5) (fun h => h.elim (of_decide_eq_false d6) (of_decide_eq_false d7)) (of_decide_eq_false d11) (of_decide_eq_false d12) (of_decide_eq_false d13)
    have gc : GC M1 (msK .nils .nils .nils .nils .nils (e0 t id)) (e0 t id) :=
      gcK (x := e0 t id) rfl rfl rfl rfl rfl .nil .nil .nil .nil .nil
    generalize msK .nils .nils .nils .nils .nils (e0 t id) = C at qF gc ⊢
    generalize e0 t id = x at got gc
    generalize M1 = mF at zF qF sF gc ⊢
  case' T12 =>
    subst h
    simp -implicitDefEqProofs only [sims.1, keeps.1, tick_on, calleeK, Nat.reduceEqDiff, Int.reduceEq, f22, he5]
    refine callD_n (n := 2) hb fR (by omega) (by omega) fun m1 k1 s1 => ?_
    have lv1 := big fR 2
    obtain ⟨y1, q1⟩ := up1 k1 f0 f2
    have w1 : IntKind.u16.wrap (nV 2 S0 : Int) = (nV 2 S0 : Int) := by rw [IntKind.wrap_u16]; omega
    have c1' : (msK .nils .nils .nils .nils .nils (e0 12 id)).set 28 (.int .u16 (nV 2 S0 : Int)) = msK .nils .nils .nils .nils .nils { e0 12 id with port := nV 2 S0 } := rfl
    simp -implicitDefEqProofs only [sims.1, fx.1, keeps.1, tick_on, calleeK, faddrK, Nat.reduceEqDiff, Nat.reduceLT, he5, w1, q1, msK_len, c1']
    obtain ⟨z2, q2, s2⟩ := upd2 (msK .nils .nils .nils .nils .nils { e0 12 id with port := nV 2 S0 }) y1 q1 s1
    have l2 : (m1.set 2 (.var 37 (msK .nils .nils .nils .nils .nils { e0 12 id with port := nV 2 S0 }))).length = m1.length := by simp
    generalize m1.set 2 (.var 37 (msK .nils .nils .nils .nils .nils { e0 12 id with port := nV 2 S0 })) = m2 at z2 q2 s2 l2 ⊢
    refine callD_n (n := 1) hb s2 (by omega) (by omega) fun m3 k3 s3 => ?_
    have lv3 := big s2 1
    obtain ⟨y3, q3⟩ := up1 k3 z2 q2
    have du : decide ((nV 1 (nS 2 S0) : Int) = 1) = decide (nV 1 (nS 2 S0) = 1) := by rw [Bool.eq_iff_iff]; simp; omega
    have dg : decide ((1 : Int) < (nV 1 (nS 2 S0) : Int)) = decide (1 < nV 1 (nS 2 S0)) := by rw [Bool.eq_iff_iff]; simp; omega
    have st3 := stq (o := 29) (v := .bool (decide (nV 1 (nS 2 S0) = 1))) q3 (by rw [msK_len]; omega) rfl
    have c3' : ∀ u : Bool, (msK .nils .nils .nils .nils .nils { e0 12 id with port := nV 2 S0 }).set 29 (.bool u) = msK .nils .nils .nils .nils .nils { e0 12 id with port := nV 2 S0, up := u } := fun _ => rfl
    rw [c3'] at st3
    have got := bd12 (t := 12) (i := id) (S0 := S0) rfl
    obtain ⟨z4, q4, s4⟩ := upd2 (msK .nils .nils .nils .nils .nils { e0 12 id with port := nV 2 S0, up := decide (nV 1 (nS 2 S0) = 1) }) y3 q3 s3
    generalize hm4 : m3.set 2 (.var 37 (msK .nils .nils .nils .nils .nils { e0 12 id with port := nV 2 S0, up := decide (nV 1 (nS 2 S0) = 1) })) = m4 at z4 q4 s4 st3
    obtain ⟨a4, _, f4⟩ := s4.full
    obtain ⟨mF, zF, qF, sF, hst⟩ : ∃ mF, mF[0]? = some (.var 37 z) ∧ mF[2]? = some (.var 37 (msK .nils .nils .nils .nils .nils { e0 12 id with port := nV 2 S0, up := decide (nV 1 (nS 2 S0) = 1) })) ∧ RdS mF 1 b (if 1 < nV 1 (nS 2 S0) then none else nS 1 (nS 2 S0)) ∧ storeK 1 m4 (.ptr 1 2) (.bool ((nS 1 (nS 2 S0)).isNone || decide (1 < nV 1 (nS 2 S0)))) = some mF := by
      obtain ⟨m5, g1, g2, g3, g4⟩ := s4.spoil
      by_cases hb1 : 1 < nV 1 (nS 2 S0)
      · refine ⟨m5, (up1 g3 z4 q4).1, (up1 g3 z4 q4).2, by rw [if_pos hb1]; exact g4, ?_⟩
        rw [decide_eq_true hb1, Bool.or_true]
        exact g2
      · refine ⟨m4, z4, q4, by rw [if_neg hb1]; exact s4, ?_⟩
        rw [decide_eq_false hb1, Bool.or_false]
        exact (g1 _).trans (if_pos rfl)
    have gc : GC mF (msK .nils .nils .nils .nils .nils { e0 12 id with port := nV 2 S0, up := decide (nV 1 (nS 2 S0) = 1) }) { e0 12 id with port := nV 2 S0, up := decide (nV 1 (nS 2 S0) = 1) } :=
      gcK (x := { e0 12 id with port := nV 2 S0, up := decide (nV 1 (nS 2 S0) = 1) }) rfl rfl rfl rfl rfl .nil .nil .nil .nil .nil
    cases ei : (nS 1 (nS 2 S0)).isNone <;> rw [ei] at f4 hst <;> simp only [Bool.true_or, Bool.false_or] at hst
  case' T12.false =>
    simp -implicitDefEqProofs only [sims.1, fx.1, keeps.1, tick_on, faddrK, nonnil, Nat.reduceEqDiff, he5, du, st3, f4, dg, hst]
  case' T12.true =>
    simp -implicitDefEqProofs only [sims.1, fx.1, keeps.1, tick_on, faddrK, nonnil, Nat.reduceEqDiff, he5, du, st3, f4, hst]
  case' T12.false | T12.true =>
    generalize msK .nils .nils .nils .nils .nils { e0 12 id with port := nV 2 S0, up := decide (nV 1 (nS 2 S0) = 1) } = C at qF gc ⊢
    generalize ({ e0 12 id with port := nV 2 S0, up := decide (nV 1 (nS 2 S0) = 1) } : Ms) = x at got gc
    generalize hSF : (if 1 < nV 1 (nS 2 S0) then none else nS 1 (nS 2 S0)) = SF at got sF
  case' T6 =>
    subst h
    simp -implicitDefEqProofs only [sims.1, keeps.1, tick_on, calleeK, Nat.reduceEqDiff, Int.reduceEq, f22, he5]
    refine callD_n (n := 2) hb fR (by omega) (by omega) fun m1 k1 s1 => ?_
    have lv1 := big fR 2
    obtain ⟨y1, q1⟩ := up1 k1 f0 f2
    have w1 : IntKind.u16.wrap (nV 2 S0 : Int) = (nV 2 S0 : Int) := by rw [IntKind.wrap_u16]; omega
    have c1' : (msK .nils .nils .nils .nils .nils (e0 6 id)).set 28 (.int .u16 (nV 2 S0 : Int)) = msK .nils .nils .nils .nils .nils { e0 6 id with port := nV 2 S0 } := rfl
    simp -implicitDefEqProofs only [sims.1, fx.1, keeps.1, tick_on, calleeK, faddrK, Nat.reduceEqDiff, Nat.reduceLT, he5, w1, q1, msK_len, c1']
    obtain ⟨z2, q2, s2⟩ := upd2 (msK .nils .nils .nils .nils .nils { e0 6 id with port := nV 2 S0 }) y1 q1 s1
    have l2 : (m1.set 2 (.var 37 (msK .nils .nils .nils .nils .nils { e0 6 id with port := nV 2 S0 }))).length = m1.length := by simp
    generalize m1.set 2 (.var 37 (msK .nils .nils .nils .nils .nils { e0 6 id with port := nV 2 S0 })) = m2 at z2 q2 s2 l2 ⊢
    refine callD_n (n := 2) hb s2 (by omega) (by omega) fun m3 k3 s3 => ?_
    have lv3 := big s2 2
    obtain ⟨y3, q3⟩ := up1 k3 z2 q2
    have lm3 : 3 ≤ m3.length := by have := k1.1; have := k3.1; omega
    have hbn := RP.bind (rdN 1) (nS 2 S0)
    generalize nV 2 (nS 2 S0) = n at lv3 hbn ⊢
    generalize nS 2 (nS 2 S0) = Sn at hbn s3
    have hbn : Sn.bind (fun r1 => rdMany (rdN 1) r1 n) = (nS 2 S0).bind rdB := hbn
    have wn : IntKind.i64.wrap (n : Int) = (n : Int) := by rw [IntKind.wrap_i64]; omega
    have h13 : (1 : Nat) < 3 := by omega
    simp -implicitDefEqProofs only [sims.1, fx.1, keeps.1, tick_on, Nat.reduceEqDiff, wn]
    refine W_loopM (fun i : Nat => [(7, V.int .i64 (n : Int)), (8, V.int .i64 (i : Int)), (5, V.ptr 1 0), (0, byV b), (6, V.ptr 2 0), (2, V.ptr 0 0)])
      (fun i M => i ≤ n ∧ ∃ l S' kk, M[0]? = some (.var 37 z) ∧ M[2]? = some (.var 37 (msK .nils .nils .nils (bufR 1 kk (l.map byC)) .nils { e0 6 id with port := nV 2 S0 })) ∧ RdS M 1 b S' ∧ (l.map byC ≠ [] → M[kk]? = some (.row 5 1 (l.map byC)) ∧ 3 ≤ kk) ∧ RP (rdN 1) Sn n i l S' ∧ l.length = i ∧ 3 ≤ M.length) (fun i => n + 1 - i) 0
      (Eq.trans (b := [(7, V.int .i64 (n : Int)), (8, V.int .i64 0), (5, env 5), (0, env 0), (6, V.ptr 2 0), (2, env 2)]) (by kernel_rfl) (by rw [he0, he2, he5]; rfl)) ⟨by omega, [], Sn, 0, y3, q3, s3, fun h => absurd rfl h, ?_, rfl, lm3⟩ ?_
    · cases Sn with
      | some r => exact ⟨r, rfl, rfl⟩
      | none => rfl
    clear y3 q3 s3 k3 k1 lm3 z2 q2 s2 l2 m3 m2 y1 q1 s1 m1
    rintro i M ⟨h1, l, S', kk, g0', g2, g3, g4, g5, g6, g7⟩
    have lt2 : decide ((i : Int) < (n : Int)) = decide (i < n) := by rw [Bool.eq_iff_iff]; simp
    obtain ⟨a4, _, f4⟩ := g3.full
    have fin : (i = n ∨ S' = none) → Got S' S0 6 id { e0 6 id with port := nV 2 S0, frame := l } ∧ GC M (msK .nils .nils .nils (bufR 1 kk (l.map byC)) .nils { e0 6 id with port := nV 2 S0 }) { e0 6 id with port := nV 2 S0, frame := l } := by
      intro hi
      obtain ⟨f1, f2'⟩ := g5.fin hi
      rw [hbn] at f1 f2'
      refine ⟨f1 ▸ bd6 (t := 6) (i := id) (by omega) f2', gcK (x := { e0 6 id with port := nV 2 S0, frame := l }) rfl rfl rfl ?_ rfl .nil .nil .nil ?_ .nil⟩
      · rw [lend_buf (E := 5) fun h => (g4 h).1]
        split
        · rfl
        · exact nf_by l
      · rw [lend_buf (E := 5) fun h => (g4 h).1]
        exact wk_buf
    cases d1 : decide (i < n)
  case' T6.refine_2.false =>
    obtain rfl : i = n := by have := of_decide_eq_false d1; omega
    obtain ⟨got, gc⟩ := fin (.inl rfl)
    simp -implicitDefEqProofs only [sims.1, fx.1, keeps.1, tick_on, faddrK, nonnil, Nat.reduceEqDiff, lt2, d1]
  case' T6.refine_2.true =>
    have hi := of_decide_eq_true d1
    cases S'
  case' T6.refine_2.true.some r =>
    clear fin
    simp only [Option.isNone_some] at f4
    simp -implicitDefEqProofs only [sims.1, fx.1, keeps.1, tick_on, faddrK, nonnil, Nat.reduceEqDiff, lt2, d1, f4]
    have hst := g5.step hi (nV 1 (some r)) (nS 1 (some r)) (fun r' hr => by
      obtain ⟨r0, e0', e1'⟩ := nS_some hr
      cases e0'
      exact e1') (fun hr => nS_none hr)
    have lx := nV_lt (n := 1) (g3.byt hb)
    have wx : IntKind.u8.wrap (nV 1 (some r) : Int) = (nV 1 (some r) : Int) := by rw [IntKind.wrap_u8]; omega
    have G2 : ∀ Mc, (K1 1 M Mc ∧ RdS Mc 1 b (nS 1 (some r)) ∧ Mc.length = M.length) → Mc[2]? = some (.var 37 (msK .nils .nils .nils (bufR 1 kk (l.map byC)) .nils { e0 6 id with port := nV 2 S0 })) := fun Mc h => h.1.2 _ _ (by omega) g2
    have hRow : ∀ Mc, (K1 1 M Mc ∧ RdS Mc 1 b (nS 1 (some r)) ∧ Mc.length = M.length) → l.map byC ≠ [] → Mc[kk]? = some (.row 5 1 (l.map byC)) := fun Mc h he => h.1.2 _ _ (by have := (g4 he).2; omega) (g4 he).1
    refine w_calls (JB M (fun Mc => K1 1 M Mc ∧ RdS Mc 1 b (nS 1 (some r)) ∧ Mc.length = M.length) (JF (fun Mc => K1 1 M Mc ∧ RdS Mc 1 b (nS 1 (some r)) ∧ Mc.length = M.length) 5 1 kk (l.map byC) (byC (nV 1 (some r))) (msK .nils .nils .nils (bufR 1 (M.length + 1) (l.map byC ++ [byC (nV 1 (some r))])) .nils { e0 6 id with port := nV 2 S0 }))) [3, 4, 5, 6, 8]
      [.ptr 2 33, bufR 1 kk (l.map byC), .ptr 1 0, .int .u64 (nV 1 (some r) : Int), .int .u8 (nV 1 (some r) : Int), .sl 1 M.length 0 1, bufR 1 (M.length + 1) (l.map byC ++ [byC (nV 1 (some r))]), .ptr 2 33, .tup []] (by kernel_rfl) rfl ?_ ?_
    · refine okN_pure rfl rfl rfl (fun _ M' _ => by
        show Option.map (Res.val · M') (faddrV Try.prog 37 9 (.ptr 2 0)) = _
        rw [fa37_9]
        rfl) ?_
      refine okN_early 3 rfl rfl rfl rfl (fun k M' hk h => by
        show Option.map (Res.val · M') (loadV Try.prog M' 34 (.ptr 2 33)) = _
        rw [ld34, loadK_ptr, JB_at h hk g2 G2 G2]
        rfl) ?_
      refine okN_pure rfl rfl rfl (fun _ _ _ => rfl) ?_
      refine okN_call rfl (show calleeV (evO _) _ = some (24, [.ptr 1 0, .int .i64 1]) by kernel_rfl) rfl rfl (fun m' h => by
        cases h
        exact callD_nl (n := 1) hb g3 (by omega) (by omega) fun m1 k1 s1 l1 => ⟨rfl, k1, s1, l1⟩) ?_
      refine okN_val rfl rfl rfl rfl (fun M' h => ⟨M', by
        show Option.map (Res.val · M') (convM Try.prog M' 24 5 (.int .u64 (nV 1 (some r) : Int))) = _
        rw [convM_int, cv24_5, wx]
        rfl, h⟩) ?_
      refine okN_val rfl rfl rfl rfl (fun M' h => ⟨S1 M' 5 1 (byC (nV 1 (some r))), ?_, M', h, rfl⟩) ?_
      · show Option.map (fun p => Res.val p.1 p.2) (bsliceV Try.prog 34 1 [(0, .int .u8 (nV 1 (some r) : Int))] M') = _
        rw [bs34, h.2.2]
        rfl
      refine okN_val rfl rfl rfl rfl (fun M' h => ?_) ?_
      · obtain ⟨Mc, g, rfl⟩ := h
        refine ⟨S2 Mc 5 1 kk (l.map byC) (byC (nV 1 (some r))), ?_, Mc, g, rfl⟩
        show Option.map (fun p => Res.val p.1 p.2) (appendA Try.prog 34 34 (bufR 1 kk (l.map byC)) (.sl 1 M.length 0 1) (S1 Mc 5 1 (byC (nV 1 (some r))))) = _
        have hap := apR (P := Try.prog) (m := S1 Mc 5 1 (byC (nV 1 (some r)))) (x := byC (nV 1 (some r))) (es := l.map byC) (k := Mc.length) (n := kk) un34L ze5L is34L (by omega) at_app0 (fun he => by
          have := hRow Mc g he
          rw [S1, List.getElem?_append_left (List.getElem?_eq_some_iff.1 this).1]
          exact this) (by rw [List.length_map]; omega)
        rw [← g.2.2, hap]
        have : (S1 Mc 5 1 (byC (nV 1 (some r)))).length = Mc.length + 1 := by simp [S1]
        rw [this]
        rfl
      refine okN_pure rfl rfl rfl (fun _ M' _ => by
        show Option.map (Res.val · M') (faddrV Try.prog 37 9 (.ptr 2 0)) = _
        rw [fa37_9]
        rfl) ?_
      refine okN_skip rfl rfl rfl rfl (fun M' h => ?_) ?_
      · obtain ⟨Mc, g, rfl⟩ := h
        refine ⟨_, ?_, Mc, g, rfl⟩
        show Option.map Res.skip (storeV Try.prog 34 (S2 Mc 5 1 kk (l.map byC) (byC (nV 1 (some r)))) (.ptr 2 33) (bufR 1 (M.length + 1) (l.map byC ++ [byC (nV 1 (some r))]))) = _
        have q2' : (S2 Mc 5 1 kk (l.map byC) (byC (nV 1 (some r))))[2]? = some (.var 37 (msK .nils .nils .nils (bufR 1 kk (l.map byC)) .nils { e0 6 id with port := nV 2 S0 })) := S2_at (G2 Mc g) fun he => by have := (g4 he).2; omega
        rw [st34, bufR_snoc, stq q2' (by rw [msK_len]; omega) rfl, K33]
        rfl
      exact okN_nil
    · intro M' h
      obtain ⟨Mc, g, rfl⟩ := h
      have w2 := add1N i (by omega)
      have ml : 3 ≤ (S2 Mc 5 1 kk (l.map byC) (byC (nV 1 (some r)))).length := by rw [S2_len]; omega
      simp -implicitDefEqProofs only [sims.1, keeps.1, tick_on, Nat.reduceEqDiff, putAll, w2]
      refine ⟨i + 1, by kernel_rfl, ⟨by omega, l ++ [nV 1 (some r)], nS 1 (some r), M.length + 1, ?_, ?_, ?_, ?_, hst, by simp [g6], by first | exact ml | (rw [List.length_set]; exact ml)⟩, by omega⟩
      · rw [List.getElem?_set_ne (by omega)]
        exact S2_at (g.1.2 _ _ (by omega) g0') fun he => by have := (g4 he).2; omega
      · rw [List.getElem?_set_self (by omega), List.map_append]
        rfl
      · exact (g.2.1.S2 fun he => by have := (g4 he).2; omega).at (List.getElem?_set_ne (by omega))
      · intro _
        refine ⟨?_, by omega⟩
        rw [List.getElem?_set_ne (by omega), ← g.2.2, List.map_append]
        exact S2_last
  case' T6.refine_2.true.none =>
    simp only [Option.isNone_none] at f4
    obtain ⟨got, gc⟩ := fin (.inr rfl)
    simp -implicitDefEqProofs only [sims.1, fx.1, keeps.1, tick_on, faddrK, nonnil, Nat.reduceEqDiff, lt2, d1, f4]
    have hmsg2 : rdMsg b = none := by
      rw [hmsg, map_none' got.1.symm]
      split <;> rfl
    have gz : ∀ B : B, (M.set 0 B)[0]? = some B := fun B => List.getElem?_set_self (List.getElem?_eq_some_iff.1 g0').1
    have fin70 : ∀ m1, RD2 b (.ret (.tup [.agg z, .int .i64 70]) m1) := fun m1 => ⟨m1, z, by
      have : decE b = 70 := by unfold decE; rw [hs, hmsg2]; rfl
      rw [this], by rw [← hz]; exact nfs_zM, by
      have : decX b = e0 0 0 := by unfold decX; rw [hs, hmsg2]; rfl
      rw [this, ← hz]; exact wksZ⟩
    simp only [zMx]
    simp -implicitDefEqProofs only [sims.1, fx.1, keeps.1, tick_on, Nat.reduceEqDiff, storeK_agg, hz, hzl, g0', sp0, gz, pz, Nat.le_refl]
    exact fin70 _
  case' T6.refine_2.false =>
    have zF := g0'
    have qF := g2
    have sF := g3
    generalize msK .nils .nils .nils (bufR 1 kk (l.map byC)) .nils { e0 6 id with port := nV 2 S0 } = C at qF gc ⊢
    generalize ({ e0 6 id with port := nV 2 S0, frame := l } : Ms) = x at got gc
    generalize M = mF at zF qF sF gc ⊢
  case' T7 =>
    subst h
    simp -implicitDefEqProofs only [sims.1, keeps.1, tick_on, calleeK, Nat.reduceEqDiff, Int.reduceEq, f22, he5]
    refine callD_n (n := 2) hb fR (by omega) (by omega) fun m1 k1 s1 => ?_
    have lv1 := big fR 2
    obtain ⟨y1, q1⟩ := up1 k1 f0 f2
    have w1 : IntKind.u16.wrap (nV 2 S0 : Int) = (nV 2 S0 : Int) := by rw [IntKind.wrap_u16]; omega
    have c1' : (msK .nils .nils .nils .nils .nils (e0 7 id)).set 28 (.int .u16 (nV 2 S0 : Int)) = msK .nils .nils .nils .nils .nils { e0 7 id with port := nV 2 S0 } := rfl
    simp -implicitDefEqProofs only [sims.1, fx.1, keeps.1, tick_on, calleeK, faddrK, Nat.reduceEqDiff, Nat.reduceLT, he5, w1, q1, msK_len, c1']
    obtain ⟨z2, q2, s2⟩ := upd2 (msK .nils .nils .nils .nils .nils { e0 7 id with port := nV 2 S0 }) y1 q1 s1
    have l2 : (m1.set 2 (.var 37 (msK .nils .nils .nils .nils .nils { e0 7 id with port := nV 2 S0 }))).length = m1.length := by simp
    generalize m1.set 2 (.var 37 (msK .nils .nils .nils .nils .nils { e0 7 id with port := nV 2 S0 })) = m2 at z2 q2 s2 l2 ⊢
    refine callD_n (n := 2) hb s2 (by omega) (by omega) fun m3 k3 s3 => ?_
    have lv3 := big s2 2
    obtain ⟨y3, q3⟩ := up1 k3 z2 q2
    have lm3 : 3 ≤ m3.length := by have := k1.1; have := k3.1; omega
    have hbn := RP.bind (rdN 1) (nS 2 S0)
    generalize nV 2 (nS 2 S0) = n at lv3 hbn ⊢
    generalize nS 2 (nS 2 S0) = Sn at hbn s3
    have hbn : Sn.bind (fun r1 => rdMany (rdN 1) r1 n) = (nS 2 S0).bind rdB := hbn
    have wn : IntKind.i64.wrap (n : Int) = (n : Int) := by rw [IntKind.wrap_i64]; omega
    have h13 : (1 : Nat) < 3 := by omega
    simp -implicitDefEqProofs only [sims.1, fx.1, keeps.1, tick_on, Nat.reduceEqDiff, wn]
    refine W_loopM (fun i : Nat => [(7, V.int .i64 (n : Int)), (8, V.int .i64 (i : Int)), (5, V.ptr 1 0), (0, byV b), (6, V.ptr 2 0), (2, V.ptr 0 0)])
      (fun i M => i ≤ n ∧ ∃ l S' kk, M[0]? = some (.var 37 z) ∧ M[2]? = some (.var 37 (msK .nils .nils .nils (bufR 1 kk (l.map byC)) .nils { e0 7 id with port := nV 2 S0 })) ∧ RdS M 1 b S' ∧ (l.map byC ≠ [] → M[kk]? = some (.row 5 1 (l.map byC)) ∧ 3 ≤ kk) ∧ RP (rdN 1) Sn n i l S' ∧ l.length = i ∧ 3 ≤ M.length) (fun i => n + 1 - i) 0
      (Eq.trans (b := [(7, V.int .i64 (n : Int)), (8, V.int .i64 0), (5, env 5), (0, env 0), (6, V.ptr 2 0), (2, env 2)]) (by kernel_rfl) (by rw [he0, he2, he5]; rfl)) ⟨by omega, [], Sn, 0, y3, q3, s3, fun h => absurd rfl h, ?_, rfl, lm3⟩ ?_
    · cases Sn with
      | some r => exact ⟨r, rfl, rfl⟩
      | none => rfl
    clear y3 q3 s3 k3 k1 lm3 z2 q2 s2 l2 m3 m2 y1 q1 s1 m1
    rintro i M ⟨h1, l, S', kk, g0', g2, g3, g4, g5, g6, g7⟩
    have lt2 : decide ((i : Int) < (n : Int)) = decide (i < n) := by rw [Bool.eq_iff_iff]; simp
    obtain ⟨a4, _, f4⟩ := g3.full
    have fin : (i = n ∨ S' = none) → Got S' S0 7 id { e0 7 id with port := nV 2 S0, frame := l } ∧ GC M (msK .nils .nils .nils (bufR 1 kk (l.map byC)) .nils { e0 7 id with port := nV 2 S0 }) { e0 7 id with port := nV 2 S0, frame := l } := by
      intro hi
      obtain ⟨f1, f2'⟩ := g5.fin hi
      rw [hbn] at f1 f2'
      refine ⟨f1 ▸ bd6 (t := 7) (i := id) (by omega) f2', gcK (x := { e0 7 id with port := nV 2 S0, frame := l }) rfl rfl rfl ?_ rfl .nil .nil .nil ?_ .nil⟩
      · rw [lend_buf (E := 5) fun h => (g4 h).1]
        split
        · rfl
        · exact nf_by l
      · rw [lend_buf (E := 5) fun h => (g4 h).1]
        exact wk_buf
    cases d1 : decide (i < n)
  case' T7.refine_2.false =>
    obtain rfl : i = n := by have := of_decide_eq_false d1; omega
    obtain ⟨got, gc⟩ := fin (.inl rfl)
    simp -implicitDefEqProofs only [sims.1, fx.1, keeps.1, tick_on, faddrK, nonnil, Nat.reduceEqDiff, lt2, d1]
  case' T7.refine_2.true =>
    have hi := of_decide_eq_true d1
    cases S'
  case' T7.refine_2.true.some r =>
    clear fin
    simp only [Option.isNone_some] at f4
    simp -implicitDefEqProofs only [sims.1, fx.1, keeps.1, tick_on, faddrK, nonnil, Nat.reduceEqDiff, lt2, d1, f4]
    have hst := g5.step hi (nV 1 (some r)) (nS 1 (some r)) (fun r' hr => by
      obtain ⟨r0, e0', e1'⟩ := nS_some hr
      cases e0'
      exact e1') (fun hr => nS_none hr)
    have lx := nV_lt (n := 1) (g3.byt hb)
    have wx : IntKind.u8.wrap (nV 1 (some r) : Int) = (nV 1 (some r) : Int) := by rw [IntKind.wrap_u8]; omega
    have G2 : ∀ Mc, (K1 1 M Mc ∧ RdS Mc 1 b (nS 1 (some r)) ∧ Mc.length = M.length) → Mc[2]? = some (.var 37 (msK .nils .nils .nils (bufR 1 kk (l.map byC)) .nils { e0 7 id with port := nV 2 S0 })) := fun Mc h => h.1.2 _ _ (by omega) g2
    have hRow : ∀ Mc, (K1 1 M Mc ∧ RdS Mc 1 b (nS 1 (some r)) ∧ Mc.length = M.length) → l.map byC ≠ [] → Mc[kk]? = some (.row 5 1 (l.map byC)) := fun Mc h he => h.1.2 _ _ (by have := (g4 he).2; omega) (g4 he).1
    refine w_calls (JB M (fun Mc => K1 1 M Mc ∧ RdS Mc 1 b (nS 1 (some r)) ∧ Mc.length = M.length) (JF (fun Mc => K1 1 M Mc ∧ RdS Mc 1 b (nS 1 (some r)) ∧ Mc.length = M.length) 5 1 kk (l.map byC) (byC (nV 1 (some r))) (msK .nils .nils .nils (bufR 1 (M.length + 1) (l.map byC ++ [byC (nV 1 (some r))])) .nils { e0 7 id with port := nV 2 S0 }))) [3, 4, 5, 6, 8]
      [.ptr 2 33, bufR 1 kk (l.map byC), .ptr 1 0, .int .u64 (nV 1 (some r) : Int), .int .u8 (nV 1 (some r) : Int), .sl 1 M.length 0 1, bufR 1 (M.length + 1) (l.map byC ++ [byC (nV 1 (some r))]), .ptr 2 33, .tup []] (by kernel_rfl) rfl ?_ ?_
    · refine okN_pure rfl rfl rfl (fun _ M' _ => by
        show Option.map (Res.val · M') (faddrV Try.prog 37 9 (.ptr 2 0)) = _
        rw [fa37_9]
        rfl) ?_
      refine okN_early 3 rfl rfl rfl rfl (fun k M' hk h => by
        show Option.map (Res.val · M') (loadV Try.prog M' 34 (.ptr 2 33)) = _
        rw [ld34, loadK_ptr, JB_at h hk g2 G2 G2]
        rfl) ?_
      refine okN_pure rfl rfl rfl (fun _ _ _ => rfl) ?_
      refine okN_call rfl (show calleeV (evO _) _ = some (24, [.ptr 1 0, .int .i64 1]) by kernel_rfl) rfl rfl (fun m' h => by
        cases h
        exact callD_nl (n := 1) hb g3 (by omega) (by omega) fun m1 k1 s1 l1 => ⟨rfl, k1, s1, l1⟩) ?_
      refine okN_val rfl rfl rfl rfl (fun M' h => ⟨M', by
        show Option.map (Res.val · M') (convM Try.prog M' 24 5 (.int .u64 (nV 1 (some r) : Int))) = _
        rw [convM_int, cv24_5, wx]
        rfl, h⟩) ?_
      refine okN_val rfl rfl rfl rfl (fun M' h => ⟨S1 M' 5 1 (byC (nV 1 (some r))), ?_, M', h, rfl⟩) ?_
      · show Option.map (fun p => Res.val p.1 p.2) (bsliceV Try.prog 34 1 [(0, .int .u8 (nV 1 (some r) : Int))] M') = _
        rw [bs34, h.2.2]
        rfl
      refine okN_val rfl rfl rfl rfl (fun M' h => ?_) ?_
      · obtain ⟨Mc, g, rfl⟩ := h
        refine ⟨S2 Mc 5 1 kk (l.map byC) (byC (nV 1 (some r))), ?_, Mc, g, rfl⟩
        show Option.map (fun p => Res.val p.1 p.2) (appendA Try.prog 34 34 (bufR 1 kk (l.map byC)) (.sl 1 M.length 0 1) (S1 Mc 5 1 (byC (nV 1 (some r))))) = _
        have hap := apR (P := Try.prog) (m := S1 Mc 5 1 (byC (nV 1 (some r)))) (x := byC (nV 1 (some r))) (es := l.map byC) (k := Mc.length) (n := kk) un34L ze5L is34L (by omega) at_app0 (fun he => by
          have := hRow Mc g he
          rw [S1, List.getElem?_append_left (List.getElem?_eq_some_iff.1 this).1]
          exact this) (by rw [List.length_map]; omega)
        rw [← g.2.2, hap]
        have : (S1 Mc 5 1 (byC (nV 1 (some r)))).length = Mc.length + 1 := by simp [S1]
        rw [this]
        rfl
      refine okN_pure rfl rfl rfl (fun _ M' _ => by
        show Option.map (Res.val · M') (faddrV Try.prog 37 9 (.ptr 2 0)) = _
        rw [fa37_9]
        rfl) ?_
      refine okN_skip rfl rfl rfl rfl (fun M' h => ?_) ?_
      · obtain ⟨Mc, g, rfl⟩ := h
        refine ⟨_, ?_, Mc, g, rfl⟩
        show Option.map Res.skip (storeV Try.prog 34 (S2 Mc 5 1 kk (l.map byC) (byC (nV 1 (some r)))) (.ptr 2 33) (bufR 1 (M.length + 1) (l.map byC ++ [byC (nV 1 (some r))]))) = _
        have q2' : (S2 Mc 5 1 kk (l.map byC) (byC (nV 1 (some r))))[2]? = some (.var 37 (msK .nils .nils .nils (bufR 1 kk (l.map byC)) .nils { e0 7 id with port := nV 2 S0 })) := S2_at (G2 Mc g) fun he => by have := (g4 he).2; omega
        rw [st34, bufR_snoc, stq q2' (by rw [msK_len]; omega) rfl, K33]
        rfl
      exact okN_nil
    · intro M' h
      obtain ⟨Mc, g, rfl⟩ := h
      have w2 := add1N i (by omega)
      have ml : 3 ≤ (S2 Mc 5 1 kk (l.map byC) (byC (nV 1 (some r)))).length := by rw [S2_len]; omega
      simp -implicitDefEqProofs only [sims.1, keeps.1, tick_on, Nat.reduceEqDiff, putAll, w2]
      refine ⟨i + 1, by kernel_rfl, ⟨by omega, l ++ [nV 1 (some r)], nS 1 (some r), M.length + 1, ?_, ?_, ?_, ?_, hst, by simp [g6], by first | exact ml | (rw [List.length_set]; exact ml)⟩, by omega⟩
      · rw [List.getElem?_set_ne (by omega)]
        exact S2_at (g.1.2 _ _ (by omega) g0') fun he => by have := (g4 he).2; omega
      · rw [List.getElem?_set_self (by omega), List.map_append]
        rfl
      · exact (g.2.1.S2 fun he => by have := (g4 he).2; omega).at (List.getElem?_set_ne (by omega))
      · intro _
        refine ⟨?_, by omega⟩
        rw [List.getElem?_set_ne (by omega), ← g.2.2, List.map_append]
        exact S2_last
  case' T7.refine_2.true.none =>
    simp only [Option.isNone_none] at f4
    obtain ⟨got, gc⟩ := fin (.inr rfl)
    simp -implicitDefEqProofs only [sims.1, fx.1, keeps.1, tick_on, faddrK, nonnil, Nat.reduceEqDiff, lt2, d1, f4]
    have hmsg2 : rdMsg b = none := by
      rw [hmsg, map_none' got.1.symm]
      split <;> rfl
    have gz : ∀ B : B, (M.set 0 B)[0]? = some B := fun B => List.getElem?_set_self (List.getElem?_eq_some_iff.1 g0').1
    have fin70 : ∀ m1, RD2 b (.ret (.tup [.agg z, .int .i64 70]) m1) := fun m1 => ⟨m1, z, by
      have : decE b = 70 := by unfold decE; rw [hs, hmsg2]; rfl
      rw [this], by rw [← hz]; exact nfs_zM, by
      have : decX b = e0 0 0 := by unfold decX; rw [hs, hmsg2]; rfl
      rw [this, ← hz]; exact wksZ⟩
    simp only [zMx]
    simp -implicitDefEqProofs only [sims.1, fx.1, keeps.1, tick_on, Nat.reduceEqDiff, storeK_agg, hz, hzl, g0', sp0, gz, pz, Nat.le_refl]
    exact fin70 _
  case' T7.refine_2.false =>
    have zF := g0'
    have qF := g2
    have sF := g3
    generalize msK .nils .nils .nils (bufR 1 kk (l.map byC)) .nils { e0 7 id with port := nV 2 S0 } = C at qF gc ⊢
    generalize ({ e0 7 id with port := nV 2 S0, frame := l } : Ms) = x at got gc
    generalize M = mF at zF qF sF gc ⊢
  case' T11 =>
    subst h
    simp -implicitDefEqProofs only [sims.1, keeps.1, tick_on, calleeK, Nat.reduceEqDiff, Int.reduceEq, f22, he5]
    refine callD_n (n := 2) hb fR (by omega) (by omega) fun m1 k1 s1 => ?_
    have lv1 := big fR 2
    obtain ⟨y1, q1⟩ := up1 k1 f0 f2
    have w1 : IntKind.u16.wrap (nV 2 S0 : Int) = (nV 2 S0 : Int) := by rw [IntKind.wrap_u16]; omega
    have c1' : (msK .nils .nils .nils .nils .nils (e0 11 id)).set 28 (.int .u16 (nV 2 S0 : Int)) = msK .nils .nils .nils .nils .nils { e0 11 id with port := nV 2 S0 } := rfl
    simp -implicitDefEqProofs only [sims.1, fx.1, keeps.1, tick_on, calleeK, faddrK, Nat.reduceEqDiff, Nat.reduceLT, he5, w1, q1, msK_len, c1']
    obtain ⟨z2, q2, s2⟩ := upd2 (msK .nils .nils .nils .nils .nils { e0 11 id with port := nV 2 S0 }) y1 q1 s1
    have l2 : (m1.set 2 (.var 37 (msK .nils .nils .nils .nils .nils { e0 11 id with port := nV 2 S0 }))).length = m1.length := by simp
    generalize m1.set 2 (.var 37 (msK .nils .nils .nils .nils .nils { e0 11 id with port := nV 2 S0 })) = m2 at z2 q2 s2 l2 ⊢
    refine callD_n (n := 2) hb s2 (by omega) (by omega) fun m3 k3 s3 => ?_
    have lv3 := big s2 2
    obtain ⟨y3, q3⟩ := up1 k3 z2 q2
    have lm3 : 3 ≤ m3.length := by have := k1.1; have := k3.1; omega
    have hbn := RP.bind rdH (nS 2 S0)
    generalize nV 2 (nS 2 S0) = n at lv3 hbn ⊢
    generalize nS 2 (nS 2 S0) = Sn at hbn s3
    have hbn : Sn.bind (fun r1 => rdMany rdH r1 n) = (nS 2 S0).bind rdHs := hbn
    have wn : IntKind.i64.wrap (n : Int) = (n : Int) := by rw [IntKind.wrap_i64]; omega
    simp -implicitDefEqProofs only [sims.1, fx.1, keeps.1, tick_on, Nat.reduceEqDiff, wn]
    refine W_loopM (fun i : Nat => [(9, V.int .i64 (n : Int)), (10, V.int .i64 (i : Int)), (5, V.ptr 1 0), (0, byV b), (6, V.ptr 2 0), (2, V.ptr 0 0)])
      (fun i M => i ≤ n ∧ ∃ l S' kk, M[0]? = some (.var 37 z) ∧ M[2]? = some (.var 37 (msK .nils .nils .nils .nils (bufR 27 kk (l.map heC)) { e0 11 id with port := nV 2 S0 })) ∧ RdS M 1 b S' ∧ (l.map heC ≠ [] → M[kk]? = some (.row 59 27 (l.map heC)) ∧ 3 ≤ kk) ∧ RP rdH Sn n i l S' ∧ l.length = i ∧ 3 ≤ M.length) (fun i => n + 1 - i) 0
      (Eq.trans (b := [(9, V.int .i64 (n : Int)), (10, V.int .i64 0), (5, env 5), (0, env 0), (6, V.ptr 2 0), (2, env 2)]) (by kernel_rfl) (by rw [he0, he2, he5]; rfl)) ⟨by omega, [], Sn, 0, y3, q3, s3, fun h => absurd rfl h, ?_, rfl, lm3⟩ ?_
    · cases Sn with
      | some r => exact ⟨r, rfl, rfl⟩
      | none => rfl
    clear y3 q3 s3 k3 k1 lm3 z2 q2 s2 l2 m3 m2 y1 q1 s1 m1
    rintro i M ⟨h1, l, S', kk, g0', g2, g3, g4, g5, g6, g7⟩
    have lt2 : decide ((i : Int) < (n : Int)) = decide (i < n) := by rw [Bool.eq_iff_iff]; simp
    obtain ⟨a4, _, f4⟩ := g3.full
    have fin : (i = n ∨ S' = none) → Got S' S0 11 id { e0 11 id with port := nV 2 S0, helds := l } ∧ GC M (msK .nils .nils .nils .nils (bufR 27 kk (l.map heC)) { e0 11 id with port := nV 2 S0 }) { e0 11 id with port := nV 2 S0, helds := l } := by
      intro hi
      obtain ⟨f1, f2'⟩ := g5.fin hi
      rw [hbn] at f1 f2'
      refine ⟨f1 ▸ bd11 (t := 11) (i := id) rfl f2', gcK (x := { e0 11 id with port := nV 2 S0, helds := l }) rfl rfl rfl rfl ?_ .nil .nil .nil .nil ?_⟩
      · rw [lend_buf (E := 59) fun h => (g4 h).1]
        split
        · rfl
        · exact nf_hes l
      · rw [lend_buf (E := 59) fun h => (g4 h).1]
        exact wk_buf
    cases d1 : decide (i < n)
  case' T11.refine_2.false =>
    obtain rfl : i = n := by have := of_decide_eq_false d1; omega
    obtain ⟨got, gc⟩ := fin (.inl rfl)
    simp -implicitDefEqProofs only [sims.1, fx.1, keeps.1, tick_on, faddrK, nonnil, Nat.reduceEqDiff, lt2, d1]
  case' T11.refine_2.true =>
    have hi := of_decide_eq_true d1
    cases S'
  case' T11.refine_2.true.some r =>
    clear fin
    simp only [Option.isNone_some] at f4
    simp -implicitDefEqProofs only [sims.1, fx.1, keeps.1, tick_on, calleeK, faddrK, nonnil, Nat.reduceEqDiff, lt2, d1, f4]
    refine callD_q (snd26 hb g3) en26 ?_ ?_
    rotate_left
    · rintro v m ⟨m', l, e, _⟩
      cases e
    rintro v m1 ⟨m', r1, e, k1, s1, _, x1⟩
    cases e
    have spr : splice (rk4 0 w0 .nils 0) 0 (ruC r1) = ruC r1 := splice_all rfl
    simp -implicitDefEqProofs only [sims.1, fx.1, keeps.1, tick_on, Nat.reduceAdd, Nat.reduceEqDiff, storeK_agg, ruCl, at_app0, set_app0, Nat.le_refl]
    simp only [rk0x, spr]
    have kA : K1 1 M (m1 ++ [B.var 31 (ruC r1)]) := k1.trans (K1.app m1 _)
    have sA := s1.app [B.var 31 (ruC r1)]
    have qr : (m1 ++ [B.var 31 (ruC r1)])[m1.length]? = some (.var 31 (ruC r1)) := at_app0
    have lm1 : M.length ≤ m1.length := k1.1
    generalize hMA : m1 ++ [B.var 31 (ruC r1)] = MA at kA sA qr ⊢
    have lMA : MA.length = m1.length + 1 := by rw [← hMA]; simp
    generalize m1.length = qn at qr lm1 lMA ⊢
    have g2A := kA.2 _ _ (by omega) g2
    have g0A := kA.2 _ _ (by omega) g0'
    have rowA : l.map heC ≠ [] → MA[kk]? = some (.row 59 27 (l.map heC)) := fun he => kA.2 _ _ (by have := (g4 he).2; omega) (g4 he).1
    simp only [Option.bind_some] at s1 sA x1
    generalize hSr : (rdR r).map (·.2) = Sr at sA
    have lp := nV_lt (n := 8) (sA.byt hb)
    have hst := g5.step hi (⟨r1, nV 8 Sr, nV 8 (nS 8 Sr)⟩ : He) (nS 8 (nS 8 Sr)) (fun r' hr => by
      obtain ⟨ra, ea, eb⟩ := nS_some hr
      obtain ⟨rb, ec, ed⟩ := nS_some ea
      rw [ec] at hSr
      obtain ⟨p, hp, e2⟩ := map_some' hSr
      unfold rdH
      rw [hp, Option.bind_some, e2]
      have e3 := x1 p hp
      rw [← e3]
      rw [ec] at eb ed ⊢
      rw [ed, Option.bind_some]
      simp only
      rw [eb]
      rfl) (fun hr => by
      unfold rdH
      cases hp : rdR r with
      | none => rfl
      | some p =>
        rw [hp] at hSr
        rw [Option.bind_some]
        rw [← hSr] at hr
        have hr : nS 8 (nS 8 (some p.2)) = none := hr
        cases ha : rdN 8 p.2 with
        | none => rfl
        | some a =>
          rw [Option.bind_some]
          rw [(nS_eq ha).1] at hr
          have := nS_none hr
          rw [Option.bind_some] at this
          rw [this]
          rfl)
    generalize hp1 : nV 8 Sr = p1 at hst lp
    have b57 : ∀ x y : Nat, buildV Try.prog 57 [(0, .int .u64 (x : Int)), (1, .int .u64 (y : Int))] = some (.agg [.int .u64 (x : Int), .int .u64 (y : Int)]) := fun _ _ => by kernel_rfl
    have b59 : ∀ x y : Nat, buildV Try.prog 59 [(0, .agg (ruC r1)), (1, .agg [.int .u64 (x : Int), .int .u64 (y : Int)])] = some (.agg (heC ⟨r1, x, y⟩)) := fun _ _ => by kernel_rfl
    generalize hp2 : nV 8 (nS 8 Sr) = p2 at hst
    have GG2 : ∀ Mc, (K1 1 MA Mc ∧ RdS Mc 1 b (nS 8 (nS 8 Sr)) ∧ Mc.length = MA.length) → Mc[2]? = some (.var 37 (msK .nils .nils .nils .nils (bufR 27 kk (l.map heC)) { e0 11 id with port := nV 2 S0 })) := fun Mc h => h.1.2 _ _ (by omega) g2A
    have GG1 : ∀ Mc, (K1 1 MA Mc ∧ RdS Mc 1 b (nS 8 Sr) ∧ Mc.length = MA.length) → Mc[2]? = some (.var 37 (msK .nils .nils .nils .nils (bufR 27 kk (l.map heC)) { e0 11 id with port := nV 2 S0 })) := fun Mc h => h.1.2 _ _ (by omega) g2A
    have hRow : ∀ Mc, (K1 1 MA Mc ∧ RdS Mc 1 b (nS 8 (nS 8 Sr)) ∧ Mc.length = MA.length) → l.map heC ≠ [] → Mc[kk]? = some (.row 59 27 (l.map heC)) := fun Mc h he => h.1.2 _ _ (by have := (g4 he).2; omega) (rowA he)
    have nqk : l.map heC ≠ [] → qn ≠ kk := fun he e => by
      have := rowA he
      rw [← e, qr] at this
      cases this
    refine w_calls (JC MA (fun Mc => K1 1 MA Mc ∧ RdS Mc 1 b (nS 8 Sr) ∧ Mc.length = MA.length) (fun Mc => K1 1 MA Mc ∧ RdS Mc 1 b (nS 8 (nS 8 Sr)) ∧ Mc.length = MA.length) (JF (fun Mc => K1 1 MA Mc ∧ RdS Mc 1 b (nS 8 (nS 8 Sr)) ∧ Mc.length = MA.length) 59 27 kk (l.map heC) (heC ⟨r1, p1, p2⟩) (msK .nils .nils .nils .nils (bufR 27 (MA.length + 1) (l.map heC ++ [heC ⟨r1, p1, p2⟩])) { e0 11 id with port := nV 2 S0 }))) [4, 6, 7, 8, 9, 10, 12]
      [.ptr 2 34, bufR 27 kk (l.map heC), .agg (ruC r1), .ptr 1 0, .int .u64 (p1 : Int), .ptr 1 0, .int .u64 (p2 : Int), .agg [.int .u64 (p1 : Int), .int .u64 (p2 : Int)], .agg (heC ⟨r1, p1, p2⟩), .sl 27 MA.length 0 1, bufR 27 (MA.length + 1) (l.map heC ++ [heC ⟨r1, p1, p2⟩]), .ptr 2 34, .tup []] (by kernel_rfl) rfl ?_ ?_
    · refine okN_pure rfl rfl rfl (fun _ M' _ => by
        show Option.map (Res.val · M') (faddrV Try.prog 37 10 (.ptr 2 0)) = _
        rw [fa37_10]
        rfl) ?_
      refine okN_early 5 rfl rfl rfl rfl (fun k M' hk h => by
        show Option.map (Res.val · M') (loadV Try.prog M' 35 (.ptr 2 34)) = _
        rw [ld35, loadK_ptr, JC_at h hk g2A GG1 GG2]
        rfl) ?_
      refine okN_pure rfl rfl rfl (fun k M' h => by
        show Option.map (Res.val · M') (loadV Try.prog M' 31 (.ptr qn 0)) = _
        rw [ld31, loadK_ptr, JC_any h qr (fun Mc h => h.1.2 _ _ (by omega) qr) (fun Mc h => h.1.2 _ _ (by omega) qr) (by omega) nqk]
        rfl) ?_
      refine okN_pure rfl rfl rfl (fun _ _ _ => rfl) ?_
      refine okN_call rfl (show calleeV (evO _) _ = some (24, [.ptr 1 0, .int .i64 8]) by kernel_rfl) rfl rfl (fun m' h => by
        cases h
        exact callD_nl (n := 8) hb sA (by omega) (by omega) fun m1 k1 s1 l1 => ⟨by rw [hp1], k1, s1, l1⟩) ?_
      refine okN_pure rfl rfl rfl (fun _ _ _ => rfl) ?_
      refine okN_call rfl (show calleeV (evO _) _ = some (24, [.ptr 1 0, .int .i64 8]) by kernel_rfl) rfl rfl (fun m' h => by
        obtain ⟨h1, h2, h3⟩ := h
        exact callD_nl (n := 8) hb h2 (by omega) (by omega) fun m1 k1 s1 l1 => ⟨by rw [hp2], h1.trans k1, s1, l1.trans h3⟩) ?_
      refine okN_val rfl rfl rfl rfl (fun M' h => ⟨M', by
        show Option.map (Res.val · M') (buildV Try.prog 57 [(0, .int .u64 (p1 : Int)), (1, .int .u64 (p2 : Int))]) = _
        rw [b57]
        rfl, h⟩) ?_
      refine okN_val rfl rfl rfl rfl (fun M' h => ⟨M', by
        show Option.map (Res.val · M') (buildV Try.prog 59 [(0, .agg (ruC r1)), (1, .agg [.int .u64 (p1 : Int), .int .u64 (p2 : Int)])]) = _
        rw [b59]
        rfl, h⟩) ?_
      refine okN_val rfl rfl rfl rfl (fun M' h => ⟨S1 M' 59 27 (heC ⟨r1, p1, p2⟩), ?_, M', h, rfl⟩) ?_
      · show Option.map (fun p => Res.val p.1 p.2) (bsliceV Try.prog 35 1 [(0, .agg (heC ⟨r1, p1, p2⟩))] M') = _
        have hb1 : bsliceV Try.prog 35 1 [(0, .agg (heC ⟨r1, p1, p2⟩))] M' = some (.sl 27 M'.length 0 1, M' ++ [.row 59 27 [heC ⟨r1, p1, p2⟩]]) := bs1 (P := Try.prog) (m := M') (v := .agg (heC ⟨r1, p1, p2⟩)) un35L ze59L (he_sty _) rfl (by omega) rfl
        rw [hb1, h.2.2]
        rfl
      refine okN_val rfl rfl rfl rfl (fun M' h => ?_) ?_
      · obtain ⟨Mc, g, rfl⟩ := h
        refine ⟨S2 Mc 59 27 kk (l.map heC) (heC ⟨r1, p1, p2⟩), ?_, Mc, g, rfl⟩
        show Option.map (fun p => Res.val p.1 p.2) (appendA Try.prog 35 35 (bufR 27 kk (l.map heC)) (.sl 27 MA.length 0 1) (S1 Mc 59 27 (heC ⟨r1, p1, p2⟩))) = _
        have hap := apR (P := Try.prog) (m := S1 Mc 59 27 (heC ⟨r1, p1, p2⟩)) (x := heC ⟨r1, p1, p2⟩) (es := l.map heC) (k := Mc.length) (n := kk) un35L ze59L is35L (by omega) at_app0 (fun he => by
          have := hRow Mc g he
          rw [S1, List.getElem?_append_left (List.getElem?_eq_some_iff.1 this).1]
          exact this) (by rw [List.length_map]; omega)
        rw [← g.2.2, hap]
        have : (S1 Mc 59 27 (heC ⟨r1, p1, p2⟩)).length = Mc.length + 1 := by simp [S1]
        rw [this]
        rfl
      refine okN_pure rfl rfl rfl (fun _ M' _ => by
        show Option.map (Res.val · M') (faddrV Try.prog 37 10 (.ptr 2 0)) = _
        rw [fa37_10]
        rfl) ?_
      refine okN_skip rfl rfl rfl rfl (fun M' h => ?_) ?_
      · obtain ⟨Mc, g, rfl⟩ := h
        refine ⟨_, ?_, Mc, g, rfl⟩
        show Option.map Res.skip (storeV Try.prog 35 (S2 Mc 59 27 kk (l.map heC) (heC ⟨r1, p1, p2⟩)) (.ptr 2 34) (bufR 27 (MA.length + 1) (l.map heC ++ [heC ⟨r1, p1, p2⟩]))) = _
        have q2' : (S2 Mc 59 27 kk (l.map heC) (heC ⟨r1, p1, p2⟩))[2]? = some (.var 37 (msK .nils .nils .nils .nils (bufR 27 kk (l.map heC)) { e0 11 id with port := nV 2 S0 })) := S2_at (GG2 Mc g) fun he => by have := (g4 he).2; omega
        rw [st35, bufR_snoc, stq q2' (by rw [msK_len]; omega) rfl, K34]
        rfl
      exact okN_nil
    · intro M' h
      obtain ⟨Mc, g, rfl⟩ := h
      have w2 := add1N i (by omega)
      have ml : 3 ≤ (S2 Mc 59 27 kk (l.map heC) (heC ⟨r1, p1, p2⟩)).length := by rw [S2_len]; omega
      simp -implicitDefEqProofs only [sims.1, keeps.1, tick_on, Nat.reduceEqDiff, putAll, w2]
      refine ⟨i + 1, by kernel_rfl, ⟨by omega, l ++ [⟨r1, p1, p2⟩], nS 8 (nS 8 Sr), MA.length + 1, ?_, ?_, ?_, ?_, hst, by simp [g6], by first | exact ml | (rw [List.length_set]; exact ml)⟩, by omega⟩
      · rw [List.getElem?_set_ne (by omega)]
        exact S2_at (g.1.2 _ _ (by omega) g0A) fun he => by have := (g4 he).2; omega
      · rw [List.getElem?_set_self (by omega), List.map_append]
        rfl
      · exact (g.2.1.S2 fun he => by have := (g4 he).2; omega).at (List.getElem?_set_ne (by omega))
      · intro _
        refine ⟨?_, by omega⟩
        rw [List.getElem?_set_ne (by omega), ← g.2.2, List.map_append]
        exact S2_last
  case' T11.refine_2.true.none =>
    simp only [Option.isNone_none] at f4
    obtain ⟨got, gc⟩ := fin (.inr rfl)
    simp -implicitDefEqProofs only [sims.1, fx.1, keeps.1, tick_on, faddrK, nonnil, Nat.reduceEqDiff, lt2, d1, f4]
    have hmsg2 : rdMsg b = none := by
      rw [hmsg, map_none' got.1.symm]
      split <;> rfl
    have gz : ∀ B : B, (M.set 0 B)[0]? = some B := fun B => List.getElem?_set_self (List.getElem?_eq_some_iff.1 g0').1
    have fin70 : ∀ m1, RD2 b (.ret (.tup [.agg z, .int .i64 70]) m1) := fun m1 => ⟨m1, z, by
      have : decE b = 70 := by unfold decE; rw [hs, hmsg2]; rfl
      rw [this], by rw [← hz]; exact nfs_zM, by
      have : decX b = e0 0 0 := by unfold decX; rw [hs, hmsg2]; rfl
      rw [this, ← hz]; exact wksZ⟩
    simp only [zMx]
    simp -implicitDefEqProofs only [sims.1, fx.1, keeps.1, tick_on, Nat.reduceEqDiff, storeK_agg, hz, hzl, g0', sp0, gz, pz, Nat.le_refl]
    exact fin70 _
  case' T11.refine_2.false =>
    have zF := g0'
    have qF := g2
    have sF := g3
    generalize msK .nils .nils .nils .nils (bufR 27 kk (l.map heC)) { e0 11 id with port := nV 2 S0 } = C at qF gc ⊢
    generalize ({ e0 11 id with port := nV 2 S0, helds := l } : Ms) = x at got gc
    generalize M = mF at zF qF sF gc ⊢
  all_goals
    obtain ⟨SS, sS, gS⟩ : ∃ SS, RdS mF 1 b SS ∧ Got SS S0 (tyB b) id x := ⟨_, sF, by rw [htt]; exact got⟩
    have hmsg2 : rdMsg b = if isTy (tyB b) = true then (S0.bind (rdBody (tyB b) id)).bind (fun x => if x.2 = [] ∧ chkM x.1 = 0 then some x.1 else none) else none := by
      rw [htt]
      exact hmsg
    have hCl : C.length = 36 := gc.1
    have hpC : partK true 36 C 0 = some (.agg C) := partK_row hCl
    have spzC := spz C hCl
    have spzz : splice z 0 z = z := sp0
    have fin70 : rdMsg b = none → ∀ m1, RD2 b (.ret (.tup [.agg z, .int .i64 70]) m1) := fun h m1 => ⟨m1, z, by
      have : decE b = 70 := by unfold decE; rw [hs, h]; rfl
      rw [this], by rw [← hz]; exact nfs_zM, by
      have : decX b = e0 0 0 := by unfold decX; rw [hs, h]; rfl
      rw [this, ← hz]; exact wksZ⟩
    have gz : ∀ B : B, (mF.set 0 B)[0]? = some B := fun B => List.getElem?_set_self (List.getElem?_eq_some_iff.1 zF).1
    clear got hmsg sF
    cases hSS : SS with
    | none =>
      rw [hSS] at sS gS
      obtain ⟨a9, _, f9⟩ := sS
      have hno : rdMsg b = none := by
        rw [hmsg2, map_none' gS.1.symm]
        split <;> rfl
      have fin70 := fin70 hno
      simp -implicitDefEqProofs only [sims.1, fx.1, keeps.1, tick_on, Nat.reduceEqDiff, he2, f9]
      simp only [zMx]
      simp -implicitDefEqProofs only [sims.1, fx.1, keeps.1, tick_on, Nat.reduceEqDiff, he2, storeK_agg, hz, hzl, zF, spzz, gz, pz, Nat.le_refl]
      exact fin70 _
    | some rest =>
      rw [hSS] at sS gS
      obtain ⟨a9, ha9, hr9, f9⟩ := sS
      obtain ⟨p, hp, hp2⟩ := map_some' gS.1.symm
      have hx1 := gS.2 p hp
      have ep : p = (x, rest) := by rw [hx1, ← hp2]
      rw [ep] at hp
      have dl : decide ((a9 : Int) = (b.length : Int)) = decide (a9 = b.length) := by rw [Bool.eq_iff_iff]; simp; omega
      have hrest : rest = [] ↔ a9 = b.length := by
        rw [hr9]
        constructor
        · intro h
          have := congrArg List.length h
          rw [List.length_drop] at this
          simp at this
          omega
        · intro h
          exact List.drop_of_length_le (by omega)
      rw [hp, Option.bind_some] at hmsg2
      cases el : decide (a9 = b.length)
      · have hno : rdMsg b = none := by
          rw [hmsg2, if_neg (show ¬ (rest = [] ∧ chkM x = 0) from fun h => (of_decide_eq_false el) (hrest.1 h.1))]
          split <;> rfl
        have fin70 := fin70 hno
        simp -implicitDefEqProofs only [sims.1, fx.1, keeps.1, tick_on, faddrK, nonnil, Nat.reduceEqDiff, he0, he2, he5, f9, lnr, dl, el]
        simp only [zMx]
        simp -implicitDefEqProofs only [sims.1, fx.1, keeps.1, tick_on, Nat.reduceEqDiff, he2, storeK_agg, hz, hzl, zF, spzz, gz, pz, Nat.le_refl]
        exact fin70 _
      · have hr0 : rest = [] := hrest.2 (of_decide_eq_true el)
        have hS0s : ∃ r0, S0 = some r0 ∧ rdBody (tyB b) id r0 = some (x, rest) := by
          cases hq : S0 with
          | none => rw [hq] at hp; cases hp
          | some r0 => rw [hq] at hp; exact ⟨r0, rfl, hp⟩
        obtain ⟨r0, hr0', hbody⟩ := hS0s
        have hByt : Byt r0 := by
          rw [hr0'] at hS0
          split at hS0
          · cases hS0
            exact hb.drop 8
          · cases hS0
        have hx : wfM x := rdBody_wf (i8r _) hid hByt hbody
        have hty := (rdBody_inv hByt hbody).2.1
        simp -implicitDefEqProofs only [sims.1, fx.1, keeps.1, tick_on, calleeK, faddrK, nonnil, Nat.reduceEqDiff, he0, he5, f9, lnr, dl, el, qF, hpC]
        refine callD_all (snd10c hx gc) en10 ?_
        cases ec : decide (chkM x = 0)
        · have hno : rdMsg b = none := by
            rw [hmsg2, if_neg (show ¬ (rest = [] ∧ chkM x = 0) from fun h => (of_decide_eq_false ec) h.2)]
            split <;> rfl
          have fin70 := fin70 hno
          simp -implicitDefEqProofs only [sims.1, fx.1, keeps.1, tick_on, Nat.reduceEqDiff, ec]
          simp only [zMx]
          simp -implicitDefEqProofs only [sims.1, fx.1, keeps.1, tick_on, Nat.reduceEqDiff, he2, storeK_agg, hz, hzl, zF, spzz, gz, pz, Nat.le_refl]
          exact fin70 _
        · have hk := of_decide_eq_true ec
          have hR := (right_if hk).1
          have hT : isTy (tyB b) = true := by
            rw [← hty]
            simp only [rightM, Bool.and_eq_true] at hR
            exact hR.1
          have hyes : rdMsg b = some x := by rw [hmsg2, if_pos hT, if_pos ⟨hr0, hk⟩]
          have hlz : 36 ≤ z.length := by omega
          simp -implicitDefEqProofs only [sims.1, fx.1, keeps.1, tick_on, Nat.reduceEqDiff, he2, ec, qF, hpC, storeK_agg, hCl, zF, spzC, gz, hzl, Nat.le_refl]
          have gC := gc_set (C' := C) zF gc
          refine ⟨_, C, ?_, gC.2.1, ?_⟩
          · have : decE b = 0 := by unfold decE; rw [hs, hyes]; rfl
            rw [this]
          · have : decX b = x := by unfold decX; rw [hs, hyes]; rfl
            rw [this]
            exact gC.2.2
end Go.Proofs.Ytjjenpdjmcmgbaa
